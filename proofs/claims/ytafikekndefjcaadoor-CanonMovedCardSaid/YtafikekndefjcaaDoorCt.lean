/- Contracts of canon.Small and canon.Key as functions of values; no condition. -/
import Derived.Test.YtafikekndefjcaaDoorCs
import Derived.Test.YtafikekndefjcaaDoorWa
import Derived.Test.YtafikekndefjcaaDoorBe17
namespace Go.Proofs.YtafikekndefjcaaDoor
set_option linter.unusedVariables false
set_option linter.unusedSimpArgs false
set_option linter.unusedSectionVars false
open Go.RowKit
attribute [local simp] List.getD_cons_zero List.getD_cons_succ List.getD_nil undef gvars runL runE effA stepA dstOk wantA core lk st dl AS.ev AS.evs AS.put AS.upd updO updI nxt cPick cAlloc cBox cBuild cBuildS cLoad cStore cNil plainOf cBin cNilS isNilS nilA cUn cConvX cConvB cConv bytesOf rowB cMake cSlice slA idxA cFA cF cIA cIX cIS cI cExt cLen cApp cMM cFun cCall lenA lenM isNilM nilM cNilM cMakeM hintB cMapK cLook foundR lookR cUpd putM cDel delM findA isKeyB Instr.sameNow AS.entry AS.bound AS.callee sc1 sc2 ixOk ldA AV.flat AV.cell AV.cells Value.oneCell' fillA spl chunk zeros AS.parts AS.rows AS.shut AS.shut1 AS.shut2 AS.shutL AS.shutM AV.ids idsL idsLL eqAll bndA AV.scalar AV.scalar1 AV.isV Ef.app Ef.pk ptOf pntO wrO wr
attribute [-simp] List.getD_eq_getElem?_getD
set_option maxRecDepth 100000
theorem Rv.tupM {G G' : Gh} {cs ds : List AV} {v : Value} (h : Rv G (.tup cs) v) (hl : ds.length = cs.length) (hd : ∀ i u, i < cs.length → Rv G (cs.getD i .any) u → Rv G' (ds.getD i .any) u) : Rv G' (.tup ds) v := by
  cases h with
  | tup _ us h1 h2 => exact .tup ds us (by omega) fun i hi => hd i _ (by omega) (h2 i (by omega))
def smallA (N : Int) (L : List (List Int)) : AV := if checkT N L = 0 then .tup [aTh ((smallN (normL L)).length : Int) (smallL (normL L)), aInts (smallN (normL L)), .v (.int .i64 0)] else .tup [.agg [.v (.int .i64 0), .v (.slice none 0 0)], .v (.slice none 0 0), .v (.int .i64 (checkT N L))]
theorem small_pure (N : Int) (L : List (List Int)) (hN : okI N = true) (h : okRows L = true) (hz : checkT N L = 0) : FnPure Tryd.prog 15 [aTh N L] (smallA N L) := by
  unfold smallA
  rw [if_pos hz]
  refine obj_pure (small_obj N L hN h hz) fun B G n w a v T hr hT hv => ?_
  refine hv.tupM rfl fun i u hi hu => ?_
  match i, hi with
  | 0, _ => exact readT_th hr hT (k := 0) (b := 1) rfl (fun j hj => by simp only [objT, lk]; rw [if_neg (by omega)]; exact lk_fam_add hj) hu
  | 1, _ => exact Rv.pure (G := G) (G' := G0 T) hT.st hu (ids_ints _)
  | 2, _ => exact hu.isV rfl
theorem small_err (N : Int) (L : List (List Int)) (hN : okI N = true) (h : okRows L = true) (hz : ¬ checkT N L = 0) : FnPure Tryd.prog 15 [aTh N L] (smallA N L) := by
  have hno : normA N L = .tup [.agg [.v (.int .i64 0), .v (.slice none 0 0)], .v (.int .i64 (checkT N L))] := by unfold normA; rw [if_neg hz]
  have hne : (checkT N L != 0) = true := by simpa using hz
  unfold smallA
  rw [if_neg hz]
  unfold aTh
  refine fn_sp TT_ok Tryd.func15 (c := _) rfl (by simp [Tryd.ntmps15]) (fun B hI0 hro => ?_)
  rw [Tryd.ntmps15]
  simp only [enumA]
  refine amGo PT80_ok (h := ?_)
  ((refine post_ret (av := ?_) (by first | exact .inl rfl | exact .inr rfl) (show (Tryd.f15).results.toList = _ from by rw [Tryd.results15]) ?_ ?_); rotate_left; (focus (simp [retA, retL, ret1, lk, st, ldA, AV.cell]; rfl)); (try simp [*]))
theorem small_p (N : Int) (L : List (List Int)) (hN : okI N = true) (h : okRows L = true) : FnPure Tryd.prog 15 [aTh N L] (smallA N L) := by
  by_cases hz : checkT N L = 0
  · exact small_pure N L hN h hz
  · exact small_err N L hN h hz
@[simp] def g_cSmall : List AV → Option (AV × Bool)
  | [.agg [.v (.int .i64 N), a0]] => (match toRows a0 with | some L => if (okI N && okRows L) = true then some (smallA N L, false) else none | none => none)
  | _ => none
theorem e_cSmall : EntOk Tryd.prog 15 g_cSmall := ent_pure (by kernel_rfl) fun args r fr h => by
  unfold g_cSmall at h
  split at h
  · rename_i N a0
    split at h
    · rename_i L t0
      split at h
      · rename_i hc
        simp only [Bool.and_eq_true] at hc
        obtain ⟨m0, o0⟩ := hc
        cases h
        exact ⟨FnPure.cov (small_p N L m0 o0) (.cons (cov_th _ (cov_rows t0)) .nil), rfl⟩
      · cases h
    · cases h
  · cases h

def l81 : List (FuncId × (List AV → Option (AV × Bool))) :=
  (15, g_cSmall) :: l80
theorem l81_ok : ∀ p ∈ l81, EntOk Tryd.prog p.1 p.2 := ent_cons e_cSmall (l80_ok)
def PT81 : PTab := tab l81
theorem PT81_ok : PTok Tryd.prog PT81 := tab_ok l81_ok
@[simp] theorem PT81_litVar : PT81 37 = g_litVar := rfl
@[simp] theorem PT81_litValid : PT81 60 = g_litValid := rfl
@[simp] theorem PT81_check : PT81 41 = g_check := rfl
@[simp] theorem PT81_with : PT81 55 = g_with := rfl
@[simp] theorem PT81_all : PT81 43 = g_all := rfl
@[simp] theorem PT81_rValid : PT81 75 = g_rValid := rfl
@[simp] theorem PT81_rHas : PT81 40 = g_rHas := rfl
@[simp] theorem PT81_rCheck : PT81 56 = g_rCheck := rfl
@[simp] theorem PT81_litvalid : PT81 66 = g_litvalid := rfl
@[simp] theorem PT81_opposite : PT81 68 = g_opposite := rfl
@[simp] theorem PT81_clone : PT81 81 = g_clone := rfl
@[simp] theorem PT81_order : PT81 67 = g_order := rfl
@[simp] theorem PT81_clause : PT81 48 = g_clause := rfl
@[simp] theorem PT81_equal : PT81 52 = g_equal := rfl
@[simp] theorem PT81_distinct : PT81 51 = g_distinct := rfl
@[simp] theorem PT81_normal : PT81 34 = g_normal := rfl
@[simp] theorem PT81_rContains : PT81 76 = g_rContains := rfl
@[simp] theorem PT81_rSameInts : PT81 18 = g_rSameInts := rfl
@[simp] theorem PT81_rAbs : PT81 59 = g_rAbs := rfl
@[simp] theorem PT81_rBefore : PT81 77 = g_rBefore := rfl
@[simp] theorem PT81_rSorted : PT81 57 = g_rSorted := rfl
@[simp] theorem PT81_rPut : PT81 58 = g_rPut := rfl
@[simp] theorem PT81_rNormal : PT81 38 = g_rNormal := rfl
@[simp] theorem PT81_place : PT81 74 = g_place := rfl
@[simp] theorem PT81_vHas : PT81 79 = g_vHas := rfl
@[simp] theorem PT81_vMinus : PT81 61 = g_vMinus := rfl
@[simp] theorem PT81_vSub : PT81 42 = g_vSub := rfl
@[simp] theorem PT81_litHolds : PT81 64 = g_litHolds := rfl
@[simp] theorem PT81_litAny : PT81 44 = g_litAny := rfl
@[simp] theorem PT81_thEval : PT81 24 = g_thEval := rfl
@[simp] theorem PT81_rSame : PT81 17 = g_rSame := rfl
@[simp] theorem PT81_thVars : PT81 36 = g_thVars := rfl
@[simp] theorem PT81_rVars : PT81 39 = g_rVars := rfl
@[simp] theorem PT81_light : PT81 12 = g_light := rfl
@[simp] theorem PT81_vList : PT81 35 = g_vList := rfl
@[simp] theorem PT81_cSmall : PT81 15 = g_cSmall := rfl
end Go.Proofs.YtafikekndefjcaaDoor
