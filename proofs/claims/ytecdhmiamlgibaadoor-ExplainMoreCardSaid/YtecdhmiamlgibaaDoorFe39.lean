/- Which nets are looked at; no condition. -/
import Derived.Test.YtecdhmiamlgibaaDoorMt39
import Derived.Test.YtecdhmiamlgibaaDoorWa
namespace Go.Proofs.YtecdhmiamlgibaaDoor
set_option linter.unusedVariables false
set_option linter.unusedSimpArgs false
set_option linter.unusedSectionVars false
open Go.RowKit
attribute [local simp] List.getD_cons_zero List.getD_cons_succ List.getD_nil undef gvars runL runE effA stepA dstOk wantA core lk st dl AS.ev AS.evs AS.put AS.upd updO updI nxt cPick cAlloc cBox cBuild cBuildS cLoad cStore cNil plainOf cBin cNilS isNilS nilA cUn cConvX cConvB cConv bytesOf rowB cMake cSlice slA idxA cFA cF cIA cIX cIS cI cExt cLen cApp cMM cFun cCall lenA lenM isNilM nilM cNilM cMakeM hintB cMapK cLook foundR lookR cUpd putM cDel delM findA isKeyB Instr.sameNow AS.entry AS.bound AS.callee sc1 sc2 ixOk ldA AV.flat AV.cell AV.cells Value.oneCell' fillA spl chunk zeros AS.parts AS.rows AS.shut AS.shut1 AS.shut2 AS.shutL AS.shutM AV.ids idsL idsLL eqAll bndA AV.scalar AV.scalar1 AV.isV Ef.app Ef.pk ptOf pntO wrO wr
attribute [-simp] List.getD_eq_getElem?_getD
set_option maxRecDepth 100000
def matL (ns : List Nd) : List Int := listS (matS ns)
def fewN (N : Int) (ns : List Nd) (most : Int) : Bool := lightN ns && (!validN N ns || decide (((matL ns).length : Int) ≤ most) || decide (16 < (matL ns).length))
theorem few39_p (N : Int) (ns : List Nd) (most : Int) (hN : okI N = true) (h0 : okN0 ns = true) (hm : okI most = true) : FnPure Tryd.prog 12 [aNet N ns, .v (.int .i64 most)] (.v (.bool (fewN N ns most))) := by
  have hl := okN0_len h0
  unfold aNet aNds fewN
  cases h1 : lightN ns
  · rw [Bool.false_and]
    refine fn_sp TT_ok Tryd.func12 (c := _) rfl (by simp [Tryd.ntmps12]) (fun B hI0 hro => ?_)
    rw [Tryd.ntmps12]
    simp only [enumA]
    refine amGo PT140_ok (h := ?_)
    ((refine post_ret (av := ?_) (by first | exact .inl rfl | exact .inr rfl) (show (Tryd.f12).results.toList = _ from by rw [Tryd.results12]) ?_ ?_); rotate_left; (focus (simp [retA, retL, ret1, lk, st, ldA, AV.cell]; rfl)); (try simp [*]))
  rw [Bool.true_and]
  have h2 := okNs_of h0 h1
  cases h3 : validN N ns
  · refine fn_sp TT_ok Tryd.func12 (c := _) rfl (by simp [Tryd.ntmps12]) (fun B hI0 hro => ?_)
    rw [Tryd.ntmps12]
    simp only [enumA]
    refine amGo PT140_ok (h := ?_)
    ((refine post_ret (av := ?_) (by first | exact .inl rfl | exact .inr rfl) (show (Tryd.f12).results.toList = _ from by rw [Tryd.results12]) ?_ ?_); rotate_left; (focus (simp [retA, retL, ret1, lk, st, ldA, AV.cell]; rfl)); (try simp [*]))
  have h4 := listS_len (matS ns)
  unfold matL
  generalize hk : (listS (matS ns)).length = k at h4
  by_cases h5 : (k : Int) ≤ most
  · refine fn_sp TT_ok Tryd.func12 (c := _) rfl (by simp [Tryd.ntmps12]) (fun B hI0 hro => ?_)
    rw [Tryd.ntmps12]
    simp only [enumA]
    refine amGo PT140_ok (h := ?_)
    ((refine post_ret (av := ?_) (by first | exact .inl rfl | exact .inr rfl) (show (Tryd.f12).results.toList = _ from by rw [Tryd.results12]) ?_ ?_); rotate_left; (focus (simp [retA, retL, ret1, lk, st, ldA, AV.cell]; rfl)); (try simp [*]))
    all_goals simp [h5]
  · refine fn_sp TT_ok Tryd.func12 (c := _) rfl (by simp [Tryd.ntmps12]) (fun B hI0 hro => ?_)
    rw [Tryd.ntmps12]
    simp only [enumA]
    refine amGo PT140_ok (h := ?_)
    ((refine post_ret (av := ?_) (by first | exact .inl rfl | exact .inr rfl) (show (Tryd.f12).results.toList = _ from by rw [Tryd.results12]) ?_ ?_); rotate_left; (focus (simp [retA, retL, ret1, lk, st, ldA, AV.cell]; rfl)); (try simp [*]))
    all_goals first | omega | (rw [Bool.eq_iff_iff]; simp [h5]; done) | (rw [Bool.eq_iff_iff]; simp [h5]; omega)
@[simp] def g_few39 : List AV → Option (AV × Bool)
  | [.agg [.v (.int .i64 N), a0], .v (.int .i64 most)] => (match toNds a0 with | some ns => if (okI N && okN0 ns && okI most) = true then some (.v (.bool (fewN N ns most)), false) else none | none => none)
  | _ => none
theorem e_few39 : EntOk Tryd.prog 12 g_few39 := ent_pure (by kernel_rfl) fun args r fr h => by
  unfold g_few39 at h
  split at h
  · rename_i N a0 most
    split at h
    · rename_i ns t0
      split at h
      · rename_i hc
        simp only [Bool.and_eq_true] at hc
        obtain ⟨⟨n0, o0⟩, o1⟩ := hc
        cases h
        exact ⟨FnPure.cov (few39_p N ns most n0 o0 o1) (.cons (cov_th _ (cov_nds t0)) (.cons (Cov.refl _) .nil)), rfl⟩
      · cases h
    · cases h
  · cases h

def l141 : List (FuncId × (List AV → Option (AV × Bool))) :=
  (12, g_few39) :: l140
theorem l141_ok : ∀ p ∈ l141, EntOk Tryd.prog p.1 p.2 := ent_cons e_few39 (l140_ok)
def PT141 : PTab := tab l141
theorem PT141_ok : PTok Tryd.prog PT141 := tab_ok l141_ok
@[simp] theorem PT141_litVar : PT141 85 = g_litVar := rfl
@[simp] theorem PT141_litValid : PT141 110 = g_litValid := rfl
@[simp] theorem PT141_with : PT141 26 = g_with := rfl
@[simp] theorem PT141_without : PT141 25 = g_without := rfl
@[simp] theorem PT141_all : PT141 29 = g_all := rfl
@[simp] theorem PT141_place : PT141 54 = g_place := rfl
@[simp] theorem PT141_vHas : PT141 36 = g_vHas := rfl
@[simp] theorem PT141_vMinus : PT141 31 = g_vMinus := rfl
@[simp] theorem PT141_vCut : PT141 22 = g_vCut := rfl
@[simp] theorem PT141_vUnion : PT141 21 = g_vUnion := rfl
@[simp] theorem PT141_vSub : PT141 72 = g_vSub := rfl
@[simp] theorem PT141_litHolds : PT141 56 = g_litHolds := rfl
@[simp] theorem PT141_nFormed : PT141 84 = g_nFormed := rfl
@[simp] theorem PT141_nCheck : PT141 55 = g_nCheck := rfl
@[simp] theorem PT141_r4Var : PT141 97 = g_r4Var := rfl
@[simp] theorem PT141_r4Valid : PT141 96 = g_r4Valid := rfl
@[simp] theorem PT141_rFormed : PT141 69 = g_rFormed := rfl
@[simp] theorem PT141_rValid20 : PT141 40 = g_rValid20 := rfl
@[simp] theorem PT141_r3Has : PT141 83 = g_r3Has := rfl
@[simp] theorem PT141_r3List : PT141 70 = g_r3List := rfl
@[simp] theorem PT141_r3Len : PT141 41 = g_r3Len := rfl
@[simp] theorem PT141_light39 : PT141 39 = g_light39 := rfl
@[simp] theorem PT141_r20Vars : PT141 71 = g_r20Vars := rfl
@[simp] theorem PT141_r39Mat : PT141 42 = g_r39Mat := rfl
@[simp] theorem PT141_few39 : PT141 12 = g_few39 := rfl
end Go.Proofs.YtecdhmiamlgibaaDoor
