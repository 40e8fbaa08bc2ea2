/- censuslaw23.literal; no condition. -/
import Derived.Test.YtllkogdgmmcfgaaGreatDoorSv23
import Derived.Test.YtllkogdgmmcfgaaGreatDoorWa
namespace Go.Proofs.YtllkogdgmmcfgaaGreatDoor
set_option linter.unusedVariables false
set_option linter.unusedSimpArgs false
set_option linter.unusedSectionVars false
open Go.RowKit
attribute [local simp] List.getD_cons_zero List.getD_cons_succ List.getD_nil undef gvars runL runE effA stepA dstOk wantA core lk st dl AS.ev AS.evs AS.put AS.upd updO updI nxt cPick cAlloc cBox cBuild cBuildS cLoad cStore cNil plainOf cBin cNilS isNilS nilA cUn cConvX cConvB cConv bytesOf rowB cMake cSlice slA idxA cFA cF cIA cIX cIS cI cExt cLen cApp cMM cFun cCall lenA lenM isNilM nilM cNilM cMakeM hintB cMapK cLook foundR lookR cUpd putM cDel delM findA isKeyB Instr.sameNow AS.entry AS.bound AS.callee sc1 sc2 ixOk ldA AV.flat AV.cell AV.cells Value.oneCell' fillA spl chunk zeros AS.parts AS.rows AS.shut AS.shut1 AS.shut2 AS.shutL AS.shutM AV.ids idsL idsLL eqAll bndA AV.scalar AV.scalar1 AV.isV Ef.app Ef.pk ptOf pntO wrO wr
attribute [-simp] List.getD_eq_getElem?_getD
set_option maxRecDepth 100000
set_option maxHeartbeats 4000000 in
theorem lit23_p (M : Int) (ns : List Nd) (m : Nat) (l : Int) (hns : okNs ns = true) (hv : validN M ns = true) (hm : m < ns.length) (hl : okI l = true) : FnPure Tryz.prog 40 [aNet M ns, .v (.int .i64 (m : Int)), .v (.int .i64 l)] (.v (.bool (litB ns (m : Int) l))) := by
 have hnl := okNs_len hns
 obtain ⟨o1, o2, o3, o4⟩ := okNs_at hns hm
 have hfm := valid_form hv hm
 have hmi : (m : Int) < (ns.length : Int) := by omega
 have hget := nds_get hm
 have hB : litB ns (m : Int) l = if (ns.getD m nd0).1 = 2 then decide ((ns.getD m nd0).2.1 = l) else (decide ((ns.getD m nd0).1 = 3) && (ns.getD m nd0).2.2.any (litI ns l)) := rfl
 have hin : ∀ j, j < (ns.getD m nd0).2.2.length → ∃ q : Nat, (ns.getD m nd0).2.2.getD j 0 = (q : Int) ∧ q < m := fun j hj => by
  have hmem : (ns.getD m nd0).2.2.getD j 0 ∈ (ns.getD m nd0).2.2 := getD_memI hj
  have := form_in hfm hmem
  exact ⟨((ns.getD m nd0).2.2.getD j 0).toNat, by omega, by omega⟩
 obtain ⟨x, hx⟩ : ∃ x, ns.getD m nd0 = x := ⟨_, rfl⟩
 rw [hx] at hB hin o1 o2 o3 o4 hget
 obtain ⟨K, y, is⟩ := x
 simp only at hB hin o1 o2 o3 o4 hget
 have HIN := Lib.hid hin
 have HB := Lib.hid hB
 clear hB hin hx hfm
 unfold aNet aNds
 by_cases h2 : K = 2
 ·subst h2
  have hF := HB.out
  rw [if_pos rfl] at hF
  rw [hF]
  by_cases h3 : y = l
  ·have h3b : (y == l) = true := by simpa using h3
   rw [decide_eq_true h3]
   clear h3 hF
   refine fn_sp TT_ok Tryz.func40 (c := _) rfl (by simp [Tryz.ntmps40]) (fun B hI0 hro => ?_)
   rw [Tryz.ntmps40]
   simp only [enumA]
   refine amGo PT230_ok (h := ?_)
   (refine amRt Tryz.results40 (h := ?_); try simp [*])
  ·have h3b : (y == l) = false := by simpa using h3
   rw [decide_eq_false h3]
   clear h3 hF
   refine fn_sp TT_ok Tryz.func40 (c := _) rfl (by simp [Tryz.ntmps40]) (fun B hI0 hro => ?_)
   rw [Tryz.ntmps40]
   simp only [enumA]
   refine amGo PT230_ok (h := ?_)
   (refine amRt Tryz.results40 (h := ?_); try simp [*])
 have hF := HB.out
 rw [if_neg h2] at hF
 rw [hF]
 have h2b : (K == 2) = false := by simpa using h2
 clear HB hF
 obtain ⟨res, hres⟩ : ∃ res, (decide (K = 3) && is.any (litI ns l)) = res := ⟨_, rfl⟩
 rw [hres]
 have HR := Lib.hid hres
 clear hres h2
 refine fn_sp TT_ok Tryz.func40 (c := _) rfl (by simp [Tryz.ntmps40]) (fun B hI0 hro => ?_)
 rw [Tryz.ntmps40]
 simp only [enumA]
 refine amStr (h := ?_)
 refine amReg PT230_ok (h := ?_)
 refine amStr (h := ?_)
 refine amReg PT230_ok (h := ?_)
 refine amStr (h := ?_)
 refine amReg PT230_ok (h := ?_)
 refine amStr (h := ?_)
 refine amReg PT230_ok (h := ?_)
 refine amStr (h := ?_)
 refine s_loop (J := fun k : {k : Nat // k ≤ is.length ∧ Hid ((is.take k).any (litI ns l) = false)} => ⟨52, [(1, .v (.int .i64 (m : Int))), (2, .v (.int .i64 l)), (3, .ptr 0 0 0), (6, .v (.bool false)), (7, .ptr 6 0 0), (8, .v (.int .i64 (k.1 : Int)))], [(0, ⟨28, 2, [[.v (.int .i64 M), aNds ns]]⟩), (6, ⟨32, 3, [[.v (.int .i64 K), .v (.int .i64 y), aInts is]]⟩)], [6, 0]⟩) (μ := fun k => is.length - k.1) ⟨0, Nat.zero_le _, Lib.hid rfl⟩ ?_ (fun ⟨k, hk, HK⟩ => ?_)
 ·(refine weak_id rfl ?_ ?_ <;> ((try simp only [List.mem_cons, List.not_mem_nil, or_false, forall_eq_or_imp, forall_eq]); (try simp (disch := omega) [i64w, *])))
  all_goals rfl
 try dsimp only at hk HK
 try dsimp only
 unfold aNds
 by_cases h3 : K = 3
 ·subst h3
  refine amStr (h := ?_)
  by_cases hkk : k < is.length
  ·have hki : (k : Int) < (is.length : Int) := by omega
   obtain ⟨q, hq1, hq2⟩ := HIN.out k hkk
   have hqn : q < ns.length := by omega
   have hqi : (q : Int) < (ns.length : Int) := by omega
   have hgq := nds_get hqn
   have hwk : IntKind.i64.wrap ((k : Int) + 1) = (k : Int) + 1 := i64s k (by omega)
   have HY := Lib.hid (any_take_yes (f := litI ns l) (d := 0) hkk)
   have HN := Lib.hid (any_take_step (f := litI ns l) (d := 0) hkk HK.out)
   rw [hq1] at HY HN
   have hli : litI ns l (q : Int) = (decide ((ns.getD q nd0).1 = 2) && decide ((ns.getD q nd0).2.1 = l)) := rfl
   obtain ⟨A, hA⟩ : ∃ A, (ns.getD q nd0).1 = A := ⟨_, rfl⟩
   obtain ⟨C, hC⟩ : ∃ C, (ns.getD q nd0).2.1 = C := ⟨_, rfl⟩
   rw [hA, hC] at hgq hli
   have HLI := Lib.hid hli
   clear hA hC hli hget
   by_cases g1 : A = 2
   ·subst g1
    by_cases g2 : C = l
    ·have g2b : (C == l) = true := by simpa using g2
     have hT : res = true := by rw [← HR.out, HY.out (by rw [HLI.out, decide_eq_true g2]; rfl)]; rfl
     subst hT
     clear g2
     refine amReg PT230_ok (h := ?_)
     refine amStr (h := ?_)
     refine amDrw PT230_ok (h := ?_)
     refine amStr (h := ?_)
     refine amReg PT230_ok (h := ?_)
     refine amStr (h := ?_)
     refine amReg PT230_ok (h := ?_)
     refine amStr (h := ?_)
     (refine amRt Tryz.results40 (h := ?_); try simp [*])
    ·have g2b : (C == l) = false := by simpa using g2
     have HT := Lib.hid (HN.out (by rw [HLI.out, decide_eq_false g2, Bool.and_false]))
     clear g2
     refine amReg PT230_ok (h := ?_)
     refine amStr (h := ?_)
     refine amDrw PT230_ok (h := ?_)
     refine amStr (h := ?_)
     refine amReg PT230_ok (h := ?_)
     refine amStr (h := ?_)
     refine amReg PT230_ok (h := ?_)
     refine k_lp (⟨k + 1, hkk, HT⟩ : {k : Nat // k ≤ is.length ∧ Hid ((is.take k).any (litI ns l) = false)}) (by dsimp only; omega) ?_
     (refine weak_id rfl ?_ ?_ <;> ((try simp only [List.mem_cons, List.not_mem_nil, or_false, forall_eq_or_imp, forall_eq]); (try simp (disch := omega) [i64w, *])))
     all_goals rfl
   ·have g1b : (A == 2) = false := by simpa using g1
    have HT := Lib.hid (HN.out (by rw [HLI.out, decide_eq_false g1, Bool.false_and]))
    refine amReg PT230_ok (h := ?_)
    refine amStr (h := ?_)
    refine amDrw PT230_ok (h := ?_)
    refine amStr (h := ?_)
    refine amReg PT230_ok (h := ?_)
    refine amStr (h := ?_)
    refine amReg PT230_ok (h := ?_)
    refine k_lp (⟨k + 1, hkk, HT⟩ : {k : Nat // k ≤ is.length ∧ Hid ((is.take k).any (litI ns l) = false)}) (by dsimp only; omega) ?_
    (refine weak_id rfl ?_ ?_ <;> ((try simp only [List.mem_cons, List.not_mem_nil, or_false, forall_eq_or_imp, forall_eq]); (try simp (disch := omega) [i64w, *])))
    all_goals rfl
  ·obtain rfl : k = is.length := by omega
   have hall := HK.out
   rw [List.take_length] at hall
   have hT : res = false := by rw [← HR.out, hall, Bool.and_false]
   subst hT
   clear hall
   refine amReg PT230_ok (h := ?_)
   refine amStr (h := ?_)
   refine amReg PT230_ok (h := ?_)
   refine amStr (h := ?_)
   (refine amRt Tryz.results40 (h := ?_); try simp [*])
 ·have h3b : (K == 3) = false := by simpa using h3
  have hT : res = false := by rw [← HR.out, decide_eq_false h3, Bool.false_and]
  subst hT
  refine amStr (h := ?_)
  by_cases hkk : k < is.length
  ·have hki : (k : Int) < (is.length : Int) := by omega
   refine amReg PT230_ok (h := ?_)
   refine amStr (h := ?_)
   refine amReg PT230_ok (h := ?_)
   refine amStr (h := ?_)
   (refine amRt Tryz.results40 (h := ?_); try simp [*])
  ·have hki : ¬ ((k : Int) < (is.length : Int)) := by omega
   refine amReg PT230_ok (h := ?_)
   refine amStr (h := ?_)
   refine amReg PT230_ok (h := ?_)
   refine amStr (h := ?_)
   (refine amRt Tryz.results40 (h := ?_); try simp [*])
@[simp] def g_l23Lit : List AV → Option (AV × Bool)
 | [.agg [.v (.int .i64 M), a0], .v (.int .i64 j), .v (.int .i64 l)] => (match toNds a0 with | some ns => if (okI M && okNs ns && okI j && okI l && (decide (0 ≤ j) && decide (j < (ns.length : Int)) && validN M ns)) = true then some (.v (.bool (litB ns j l)), false) else none | none => none)
 | _ => none
theorem e_l23Lit : EntOk Tryz.prog 40 g_l23Lit := ent_pure (by kernel_rfl) fun args r fr h => by
 unfold g_l23Lit at h
 split at h
 ·rename_i M a0 j l
  split at h
  ·rename_i ns t0
   split at h
   ·rename_i hc
    simp only [Bool.and_eq_true] at hc
    obtain ⟨⟨⟨⟨m0, o0⟩, o1⟩, o2⟩, hk⟩ := hc
    cases h
    exact ⟨FnPure.cov (by obtain ⟨m, rfl⟩ := Int.eq_ofNat_of_zero_le (of_decide_eq_true hk.1.1); exact lit23_p M ns m l o0 hk.2 (by have := of_decide_eq_true hk.1.2; omega) o2) (.cons (cov_th _ (cov_nds t0)) (.cons (Cov.refl _) (.cons (Cov.refl _) .nil))), rfl⟩
   ·cases h
  ·cases h
 ·cases h

def l231 : List (FuncId × (List AV → Option (AV × Bool))) :=
 (40, g_l23Lit) :: l230
theorem l231_ok : ∀ p ∈ l231, EntOk Tryz.prog p.1 p.2 := ent_cons e_l23Lit (l230_ok)
def PT231 : PTab := tab l231
theorem PT231_ok : PTok Tryz.prog PT231 := tab_ok l231_ok
@[simp] theorem PT231_l23Lit : PT231 40 = g_l23Lit := rfl
@[simp] theorem PT231_old (f : FuncId) (h : decide (f ≠ 40) = true) : PT231 f = PT230 f := tab_old (of_decide_eq_true h)
end Go.Proofs.YtllkogdgmmcfgaaGreatDoor
