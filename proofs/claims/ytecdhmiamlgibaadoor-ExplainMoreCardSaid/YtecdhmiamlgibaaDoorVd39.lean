/- The reference's Valid of a net; no condition. -/
import Derived.Test.YtecdhmiamlgibaaDoorRy39
import Derived.Test.YtecdhmiamlgibaaDoorWa
namespace Go.Proofs.YtecdhmiamlgibaaDoor
set_option linter.unusedVariables false
set_option linter.unusedSimpArgs false
set_option linter.unusedSectionVars false
open Go.RowKit
attribute [local simp] List.getD_cons_zero List.getD_cons_succ List.getD_nil undef gvars runL runE effA stepA dstOk wantA core lk st dl AS.ev AS.evs AS.put AS.upd updO updI nxt cPick cAlloc cBox cBuild cBuildS cLoad cStore cNil plainOf cBin cNilS isNilS nilA cUn cConvX cConvB cConv bytesOf rowB cMake cSlice slA idxA cFA cF cIA cIX cIS cI cExt cLen cApp cMM cFun cCall lenA lenM isNilM nilM cNilM cMakeM hintB cMapK cLook foundR lookR cUpd putM cDel delM findA isKeyB Instr.sameNow AS.entry AS.bound AS.callee sc1 sc2 ixOk ldA AV.flat AV.cell AV.cells Value.oneCell' fillA spl chunk zeros AS.parts AS.rows AS.shut AS.shut1 AS.shut2 AS.shutL AS.shutM AV.ids idsL idsLL eqAll bndA AV.scalar AV.scalar1 AV.isV Ef.app Ef.pk ptOf pntO wrO wr
attribute [-simp] List.getD_eq_getElem?_getD
set_option maxRecDepth 100000
theorem rValid20_p (N : Int) (ns : List Nd) (hN : okI N = true) (h : okNs ns = true) : FnPure Tryd.prog 40 [aNet N ns] (.v (.bool (validN N ns))) := by
  have hl := okNs_len h
  unfold aNet aNds
  by_cases n0 : N < 0
  · rw [valid_no (.inl n0)]
    refine fn_sp TT_ok Tryd.func40 (c := _) rfl (by simp [Tryd.ntmps40]) (fun B hI0 hro => ?_)
    rw [Tryd.ntmps40]
    simp only [enumA]
    refine amGo PT134_ok (h := ?_)
    ((refine post_ret (av := ?_) (by first | exact .inl rfl | exact .inr rfl) (show (Tryd.f40).results.toList = _ from by rw [Tryd.results40]) ?_ ?_); rotate_left; (focus (simp [retA, retL, ret1, lk, st, ldA, AV.cell]; rfl)); (try simp [*]))
  by_cases n1 : 128 < N
  · rw [valid_no (.inr (.inl n1))]
    refine fn_sp TT_ok Tryd.func40 (c := _) rfl (by simp [Tryd.ntmps40]) (fun B hI0 hro => ?_)
    rw [Tryd.ntmps40]
    simp only [enumA]
    refine amGo PT134_ok (h := ?_)
    ((refine post_ret (av := ?_) (by first | exact .inl rfl | exact .inr rfl) (show (Tryd.f40).results.toList = _ from by rw [Tryd.results40]) ?_ ?_); rotate_left; (focus (simp [retA, retL, ret1, lk, st, ldA, AV.cell]; rfl)); (try simp [*]))
  by_cases l0 : ns.length = 0
  · rw [valid_no (.inr (.inr (.inl l0)))]
    have l1 : (ns.length : Int) < 1 := by omega
    refine fn_sp TT_ok Tryd.func40 (c := _) rfl (by simp [Tryd.ntmps40]) (fun B hI0 hro => ?_)
    rw [Tryd.ntmps40]
    simp only [enumA]
    refine amGo PT134_ok (h := ?_)
    ((refine post_ret (av := ?_) (by first | exact .inl rfl | exact .inr rfl) (show (Tryd.f40).results.toList = _ from by rw [Tryd.results40]) ?_ ?_); rotate_left; (focus (simp [retA, retL, ret1, lk, st, ldA, AV.cell]; rfl)); (try simp [*]))
  have l1 : ¬ (ns.length : Int) < 1 := by omega
  have l2 : ¬ (65536 : Int) < (ns.length : Int) := by omega
  refine fn_sp TT_ok Tryd.func40 (c := _) rfl (by simp [Tryd.ntmps40]) (fun B hI0 hro => ?_)
  rw [Tryd.ntmps40]
  simp only [enumA]
  refine amGo PT134_ok (h := ?_)
  refine s_loop (J := fun i : {k : Nat // k ≤ ns.length ∧ ∀ j, j < k → formB (ns.getD j nd0) N j = true} => ⟨41, [(1, .ptr 0 0 0), (3, .v (.int .i64 (i.1 : Int)))], [(0, ⟨24, 2, [[.v (.int .i64 N), .sl 3 (ns.map fun x => [AV.v (.int .i64 x.1), .v (.int .i64 x.2.1), aInts x.2.2])]]⟩)], [0]⟩) (μ := fun i => ns.length - i.1) ⟨0, Nat.zero_le _, fun j hj => by omega⟩ ?_ (fun ⟨k, hk, he⟩ => ?_)
  · (refine weak_id rfl ?_ ?_ <;> ((try simp only [List.mem_cons, List.not_mem_nil, or_false, forall_eq_or_imp, forall_eq]); (try simp (disch := omega) [i64w, *])))
  refine amGo PT134_ok (h := ?_)
  (focus ((with_reducible refine sp_cond (b := ?_) ?_ (fun hc => ?_) (fun hc => ?_)); rotate_left; (focus (first | rfl | (simp [lk, AS.ev]; rfl))); all_goals (try simp at hc)))
  · have hkk := hc
    clear hc
    obtain ⟨o1, o2, o3, _⟩ := okNs_at h hkk
    have o4 : okI (k : Int) = true := okI_iff.2 ⟨by omega, by omega⟩
    cases h1 : formB (ns.getD k nd0) N k
    · have hv := valid_not hkk h1
      refine amGo PT134_ok (h := ?_)
      ((refine post_ret (av := ?_) (by first | exact .inl rfl | exact .inr rfl) (show (Tryd.f40).results.toList = _ from by rw [Tryd.results40]) ?_ ?_); rotate_left; (focus (simp [retA, retL, ret1, lk, st, ldA, AV.cell]; rfl)); (try simp [*]))
    · refine amGo PT134_ok (h := ?_)
      refine k_lp (⟨k + 1, by omega, fun j hj => ?_⟩ : {k : Nat // k ≤ ns.length ∧ ∀ j, j < k → formB (ns.getD j nd0) N j = true}) (by dsimp only; omega) ?_
      · by_cases e : j < k
        · exact he j e
        · obtain rfl : j = k := by omega
          exact h1
      · (refine weak_id rfl ?_ ?_ <;> ((try simp only [List.mem_cons, List.not_mem_nil, or_false, forall_eq_or_imp, forall_eq]); (try simp (disch := omega) [i64w, *])))
  · obtain rfl : k = ns.length := by omega
    have hv := valid_yes (by omega) (by omega) (by omega) (by omega) he
    refine amGo PT134_ok (h := ?_)
    ((refine post_ret (av := ?_) (by first | exact .inl rfl | exact .inr rfl) (show (Tryd.f40).results.toList = _ from by rw [Tryd.results40]) ?_ ?_); rotate_left; (focus (simp [retA, retL, ret1, lk, st, ldA, AV.cell]; rfl)); (try simp [*]))
@[simp] def g_rValid20 : List AV → Option (AV × Bool)
  | [.agg [.v (.int .i64 N), a0]] => (match toNds a0 with | some ns => if (okI N && okNs ns) = true then some (.v (.bool (validN N ns)), false) else none | none => none)
  | _ => none
theorem e_rValid20 : EntOk Tryd.prog 40 g_rValid20 := ent_pure (by kernel_rfl) fun args r fr h => by
  unfold g_rValid20 at h
  split at h
  · rename_i N a0
    split at h
    · rename_i ns t0
      split at h
      · rename_i hc
        simp only [Bool.and_eq_true] at hc
        obtain ⟨m0, o0⟩ := hc
        cases h
        exact ⟨FnPure.cov (rValid20_p N ns m0 o0) (.cons (cov_th _ (cov_nds t0)) .nil), rfl⟩
      · cases h
    · cases h
  · cases h

def l135 : List (FuncId × (List AV → Option (AV × Bool))) :=
  (40, g_rValid20) :: l134
theorem l135_ok : ∀ p ∈ l135, EntOk Tryd.prog p.1 p.2 := ent_cons e_rValid20 (l134_ok)
def PT135 : PTab := tab l135
theorem PT135_ok : PTok Tryd.prog PT135 := tab_ok l135_ok
@[simp] theorem PT135_litVar : PT135 85 = g_litVar := rfl
@[simp] theorem PT135_litValid : PT135 110 = g_litValid := rfl
@[simp] theorem PT135_with : PT135 26 = g_with := rfl
@[simp] theorem PT135_without : PT135 25 = g_without := rfl
@[simp] theorem PT135_all : PT135 29 = g_all := rfl
@[simp] theorem PT135_place : PT135 54 = g_place := rfl
@[simp] theorem PT135_vHas : PT135 36 = g_vHas := rfl
@[simp] theorem PT135_vMinus : PT135 31 = g_vMinus := rfl
@[simp] theorem PT135_vCut : PT135 22 = g_vCut := rfl
@[simp] theorem PT135_vUnion : PT135 21 = g_vUnion := rfl
@[simp] theorem PT135_vSub : PT135 72 = g_vSub := rfl
@[simp] theorem PT135_litHolds : PT135 56 = g_litHolds := rfl
@[simp] theorem PT135_nFormed : PT135 84 = g_nFormed := rfl
@[simp] theorem PT135_nCheck : PT135 55 = g_nCheck := rfl
@[simp] theorem PT135_r4Var : PT135 97 = g_r4Var := rfl
@[simp] theorem PT135_r4Valid : PT135 96 = g_r4Valid := rfl
@[simp] theorem PT135_rFormed : PT135 69 = g_rFormed := rfl
@[simp] theorem PT135_rValid20 : PT135 40 = g_rValid20 := rfl
end Go.Proofs.YtecdhmiamlgibaaDoor
