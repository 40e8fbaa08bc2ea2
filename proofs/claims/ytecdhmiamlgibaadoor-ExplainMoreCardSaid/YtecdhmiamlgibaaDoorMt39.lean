/- The variables that matter; which nets are looked at; no condition. -/
import Derived.Test.YtecdhmiamlgibaaDoorVr39
import Derived.Test.YtecdhmiamlgibaaDoorWa
namespace Go.Proofs.YtecdhmiamlgibaaDoor
set_option linter.unusedVariables false
set_option linter.unusedSimpArgs false
set_option linter.unusedSectionVars false
open Go.RowKit
attribute [local simp] List.getD_cons_zero List.getD_cons_succ List.getD_nil undef gvars runL runE effA stepA dstOk wantA core lk st dl AS.ev AS.evs AS.put AS.upd updO updI nxt cPick cAlloc cBox cBuild cBuildS cLoad cStore cNil plainOf cBin cNilS isNilS nilA cUn cConvX cConvB cConv bytesOf rowB cMake cSlice slA idxA cFA cF cIA cIX cIS cI cExt cLen cApp cMM cFun cCall lenA lenM isNilM nilM cNilM cMakeM hintB cMapK cLook foundR lookR cUpd putM cDel delM findA isKeyB Instr.sameNow AS.entry AS.bound AS.callee sc1 sc2 ixOk ldA AV.flat AV.cell AV.cells Value.oneCell' fillA spl chunk zeros AS.parts AS.rows AS.shut AS.shut1 AS.shut2 AS.shutL AS.shutM AV.ids idsL idsLL eqAll bndA AV.scalar AV.scalar1 AV.isV Ef.app Ef.pk ptOf pntO wrO wr
attribute [-simp] List.getD_eq_getElem?_getD
set_option maxRecDepth 100000
theorem r39Mat_p (N : Int) (ns : List Nd) (hN : okI N = true) (h : okNs ns = true) (hv : validN N ns = true) : FnPure Tryd.prog 42 [aNet N ns] (aSet (matS ns)) := by
  have hl := okNs_len h
  have hp := valid_len hv
  obtain ⟨z1, z2⟩ := words0
  have hva : varsA N ns = .sl 2 ((varsL ns).map fun s => [AV.v (.int .u64 ((lo s).toNat : Int)), .v (.int .u64 ((hi s).toNat : Int))]) := if_pos hv
  have hO : (varsL ns).length = ns.length := scanN_len nodeS ns
  unfold aNet aNds aSet WV matS
  generalize hgo : varsL ns = O at hva hO ⊢
  have hlm : (O.map fun s => [AV.v (.int .u64 ((lo s).toNat : Int)), .v (.int .u64 ((hi s).toNat : Int))]).length = O.length := List.length_map _
  obtain ⟨m, hm⟩ : ∃ m, ns.length = m + 1 := ⟨ns.length - 1, by omega⟩
  rw [hm] at hO ⊢
  have hw : IntKind.i64.wrap (m : Int) = (m : Int) := i64w (by omega) (by omega)
  have hmO : m < O.length := by omega
  have hmm : (m : Int) < (m : Int) + 1 := by omega
  refine fn_sp TT_ok Tryd.func42 (c := _) rfl (by simp [Tryd.ntmps42]) (fun B hI0 hro => ?_)
  rw [Tryd.ntmps42]
  simp only [enumA]
  refine amGo PT139_ok (h := ?_)
  ((refine post_ret (av := ?_) (by first | exact .inl rfl | exact .inr rfl) (show (Tryd.f42).results.toList = _ from by rw [Tryd.results42]) ?_ ?_); rotate_left; (focus (simp [retA, retL, ret1, lk, st, ldA, AV.cell]; rfl)); (try simp [*]))
@[simp] def g_r39Mat : List AV → Option (AV × Bool)
  | [.agg [.v (.int .i64 N), a0]] => (match toNds a0 with | some ns => if (okI N && okNs ns && validN N ns) = true then some (aSet (matS ns), false) else none | none => none)
  | _ => none
theorem e_r39Mat : EntOk Tryd.prog 42 g_r39Mat := ent_pure (by kernel_rfl) fun args r fr h => by
  unfold g_r39Mat at h
  split at h
  · rename_i N a0
    split at h
    · rename_i ns t0
      split at h
      · rename_i hc
        simp only [Bool.and_eq_true] at hc
        obtain ⟨⟨m0, o0⟩, hk⟩ := hc
        cases h
        exact ⟨FnPure.cov (r39Mat_p N ns m0 o0 hk) (.cons (cov_th _ (cov_nds t0)) .nil), rfl⟩
      · cases h
    · cases h
  · cases h

def l140 : List (FuncId × (List AV → Option (AV × Bool))) :=
  (42, g_r39Mat) :: l139
theorem l140_ok : ∀ p ∈ l140, EntOk Tryd.prog p.1 p.2 := ent_cons e_r39Mat (l139_ok)
def PT140 : PTab := tab l140
theorem PT140_ok : PTok Tryd.prog PT140 := tab_ok l140_ok
@[simp] theorem PT140_litVar : PT140 85 = g_litVar := rfl
@[simp] theorem PT140_litValid : PT140 110 = g_litValid := rfl
@[simp] theorem PT140_with : PT140 26 = g_with := rfl
@[simp] theorem PT140_without : PT140 25 = g_without := rfl
@[simp] theorem PT140_all : PT140 29 = g_all := rfl
@[simp] theorem PT140_place : PT140 54 = g_place := rfl
@[simp] theorem PT140_vHas : PT140 36 = g_vHas := rfl
@[simp] theorem PT140_vMinus : PT140 31 = g_vMinus := rfl
@[simp] theorem PT140_vCut : PT140 22 = g_vCut := rfl
@[simp] theorem PT140_vUnion : PT140 21 = g_vUnion := rfl
@[simp] theorem PT140_vSub : PT140 72 = g_vSub := rfl
@[simp] theorem PT140_litHolds : PT140 56 = g_litHolds := rfl
@[simp] theorem PT140_nFormed : PT140 84 = g_nFormed := rfl
@[simp] theorem PT140_nCheck : PT140 55 = g_nCheck := rfl
@[simp] theorem PT140_r4Var : PT140 97 = g_r4Var := rfl
@[simp] theorem PT140_r4Valid : PT140 96 = g_r4Valid := rfl
@[simp] theorem PT140_rFormed : PT140 69 = g_rFormed := rfl
@[simp] theorem PT140_rValid20 : PT140 40 = g_rValid20 := rfl
@[simp] theorem PT140_r3Has : PT140 83 = g_r3Has := rfl
@[simp] theorem PT140_r3List : PT140 70 = g_r3List := rfl
@[simp] theorem PT140_r3Len : PT140 41 = g_r3Len := rfl
@[simp] theorem PT140_light39 : PT140 39 = g_light39 := rfl
@[simp] theorem PT140_r20Vars : PT140 71 = g_r20Vars := rfl
@[simp] theorem PT140_r39Mat : PT140 42 = g_r39Mat := rfl
end Go.Proofs.YtecdhmiamlgibaaDoor
