/- The reference's Has, List and Len of a set; no condition. -/
import Derived.Test.YtecdhmiamlgibaaDoorVd39
import Derived.Test.YtecdhmiamlgibaaDoorWa
import Derived.Test.YtecdhmiamlgibaaDoorVl
namespace Go.Proofs.YtecdhmiamlgibaaDoor
set_option linter.unusedVariables false
set_option linter.unusedSimpArgs false
set_option linter.unusedSectionVars false
open Go.RowKit
attribute [local simp] List.getD_cons_zero List.getD_cons_succ List.getD_nil undef gvars runL runE effA stepA dstOk wantA core lk st dl AS.ev AS.evs AS.put AS.upd updO updI nxt cPick cAlloc cBox cBuild cBuildS cLoad cStore cNil plainOf cBin cNilS isNilS nilA cUn cConvX cConvB cConv bytesOf rowB cMake cSlice slA idxA cFA cF cIA cIX cIS cI cExt cLen cApp cMM cFun cCall lenA lenM isNilM nilM cNilM cMakeM hintB cMapK cLook foundR lookR cUpd putM cDel delM findA isKeyB Instr.sameNow AS.entry AS.bound AS.callee sc1 sc2 ixOk ldA AV.flat AV.cell AV.cells Value.oneCell' fillA spl chunk zeros AS.parts AS.rows AS.shut AS.shut1 AS.shut2 AS.shutL AS.shutM AV.ids idsL idsLL eqAll bndA AV.scalar AV.scalar1 AV.isV Ef.app Ef.pk ptOf pntO wrO wr
attribute [-simp] List.getD_eq_getElem?_getD
set_option maxRecDepth 100000
theorem shr_bit (x : BitVec 64) (k : Nat) : ((((x.toNat : Int)).fdiv (2 ^ k)).tmod 2 == 1) = x.getLsbD k := by
  have e : ((x.toNat : Int)).fdiv (2 ^ k) = ((x.toNat / 2 ^ k : Nat) : Int) := by
    rw [Int.fdiv_eq_ediv_of_nonneg _ (by exact Int.le_of_lt (Int.pow_pos (by decide)))]
    simp
  rw [e, BitVec.getLsbD, Nat.testBit_eq_decide_div_mod_eq]
  generalize x.toNat / 2 ^ k = m
  rw [Int.tmod_eq_emod_of_nonneg (by omega), Bool.eq_iff_iff]
  simp
  omega
def listT (s : BitVec 128) (k : Nat) : List Int := ((List.range k).filter fun i : Nat => sHas s ((i : Int) + 1)).map fun i : Nat => (i : Int) + 1
theorem listT_succ (s : BitVec 128) (k : Nat) : listT s (k + 1) = if sHas s ((k : Int) + 1) = true then listT s k ++ [(k : Int) + 1] else listT s k := by
  unfold listT
  rw [List.range_succ, List.filter_append, List.map_append]
  split
  · rename_i h; simp [h]
  · rename_i h; simp [h]
theorem listT_len (s : BitVec 128) (k : Nat) : (listT s k).length ≤ k := by
  unfold listT
  rw [List.length_map]
  exact Nat.le_trans (List.length_filter_le _ _) (by simp)
theorem bitsW_filter (x : BitVec 64) : bitsW x.toNat = (List.range 64).filter fun i => x.getLsbD i := rfl
theorem listT_eq (s : BitVec 128) : listT s 128 = listS s := by
  unfold listT listS wVars
  rw [bitsW_filter, bitsW_filter]
  rw [show (128 : Nat) = 64 + 64 from rfl, List.range_add, List.filter_append, List.map_append, List.filter_map, List.map_map]
  congr 1
  · rw [show (List.range 64).filter (fun i : Nat => sHas s ((i : Int) + 1)) = (List.range 64).filter (fun i => (lo s).getLsbD i) from List.filter_congr fun i hi => by
      have hi2 := List.mem_range.1 hi
      rw [sHas_lo s _ (by omega) (by omega)]; congr 1; omega]
    exact List.map_congr_left fun i _ => by omega
  · rw [show (List.range 64).filter ((fun i : Nat => sHas s ((i : Int) + 1)) ∘ fun x => 64 + x) = (List.range 64).filter (fun i => (hi s).getLsbD i) from List.filter_congr fun i hi => by
      have hi2 := List.mem_range.1 hi
      simp only [Function.comp]
      rw [sHas_hi s _ (by omega) (by omega)]; congr 1; omega]
    exact List.map_congr_left fun i _ => by simp only [Function.comp]; omega
theorem r3Has_p (s : BitVec 128) (v : Int) (hv : okI v = true) : FnPure Tryd.prog 83 [aSet s, .v (.int .i64 v)] (.v (.bool (sHas s v))) := by
  unfold aSet WV
  by_cases h1 : v < 1
  · rw [sHas_out s v (.inl h1)]
    refine fn_sp TT_ok Tryd.func83 (c := _) rfl (by simp [Tryd.ntmps83]) (fun B hI0 hro => ?_)
    rw [Tryd.ntmps83]
    simp only [enumA]
    refine amGo PT135_ok (h := ?_)
    ((refine post_ret (av := ?_) (by first | exact .inl rfl | exact .inr rfl) (show (Tryd.f83).results.toList = _ from by rw [Tryd.results83]) ?_ ?_); rotate_left; (focus (simp [retA, retL, ret1, lk, st, ldA, AV.cell]; rfl)); (try simp [*]))
  by_cases h2 : 128 < v
  · rw [sHas_out s v (.inr h2)]
    refine fn_sp TT_ok Tryd.func83 (c := _) rfl (by simp [Tryd.ntmps83]) (fun B hI0 hro => ?_)
    rw [Tryd.ntmps83]
    simp only [enumA]
    refine amGo PT135_ok (h := ?_)
    ((refine post_ret (av := ?_) (by first | exact .inl rfl | exact .inr rfl) (show (Tryd.f83).results.toList = _ from by rw [Tryd.results83]) ?_ ?_); rotate_left; (focus (simp [retA, retL, ret1, lk, st, ldA, AV.cell]; rfl)); (try simp [*]))
  have w1 : IntKind.i64.wrap (v - 1) = v - 1 := i64w (by omega) (by omega)
  by_cases h3 : v ≤ 64
  · obtain ⟨q1, q2⟩ := quo64_lo (by omega : 1 ≤ v) h3
    have w2 : IntKind.u64.wrap (v - 1) = v - 1 := u64w (by omega) (by omega)
    rw [sHas_lo s v (by omega) h3]
    have f3 : ¬ (v - 1 < 0) := by omega
    have g1 := (shl_lo (by omega : 1 ≤ v) h3).1
    refine fn_sp TT_ok Tryd.func83 (c := _) rfl (by simp [Tryd.ntmps83]) (fun B hI0 hro => ?_)
    rw [Tryd.ntmps83]
    simp only [enumA]
    refine amGo PT135_ok (h := ?_)
    ((refine post_ret (av := ?_) (by first | exact .inl rfl | exact .inr rfl) (show (Tryd.f83).results.toList = _ from by rw [Tryd.results83]) ?_ ?_); rotate_left; (focus (simp [retA, retL, ret1, lk, st, ldA, AV.cell]; rfl)); (try simp [*]))
    all_goals exact shr_bit _ _
  · obtain ⟨q1, q2⟩ := quo64_hi (by omega : 65 ≤ v) (by omega)
    have w2 : IntKind.u64.wrap (v - 65) = v - 65 := u64w (by omega) (by omega)
    rw [sHas_hi s v (by omega) (by omega)]
    have f3 : ¬ (v - 65 < 0) := by omega
    have g1 := (shl_hi (by omega : 65 ≤ v) (by omega)).1
    refine fn_sp TT_ok Tryd.func83 (c := _) rfl (by simp [Tryd.ntmps83]) (fun B hI0 hro => ?_)
    rw [Tryd.ntmps83]
    simp only [enumA]
    refine amGo PT135_ok (h := ?_)
    ((refine post_ret (av := ?_) (by first | exact .inl rfl | exact .inr rfl) (show (Tryd.f83).results.toList = _ from by rw [Tryd.results83]) ?_ ?_); rotate_left; (focus (simp [retA, retL, ret1, lk, st, ldA, AV.cell]; rfl)); (try simp [*]))
    all_goals exact shr_bit _ _
@[simp] def g_r3Has : List AV → Option (AV × Bool)
  | [a0, .v (.int .i64 v)] => (match toSet a0 with | some s => if (okI v) = true then some (.v (.bool (sHas s v)), false) else none | none => none)
  | _ => none
theorem e_r3Has : EntOk Tryd.prog 83 g_r3Has := ent_pure (by kernel_rfl) fun args r fr h => by
  unfold g_r3Has at h
  split at h
  · rename_i a0 v
    split at h
    · rename_i s t0
      split at h
      · rename_i hc
        have o1 := hc
        cases h
        exact ⟨FnPure.cov (r3Has_p s v o1) (.cons (toSet_inv t0 ▸ Cov.refl _) (.cons (Cov.refl _) .nil)), rfl⟩
      · cases h
    · cases h
  · cases h

def l136 : List (FuncId × (List AV → Option (AV × Bool))) :=
  (83, g_r3Has) :: l135
theorem l136_ok : ∀ p ∈ l136, EntOk Tryd.prog p.1 p.2 := ent_cons e_r3Has (l135_ok)
def PT136 : PTab := tab l136
theorem PT136_ok : PTok Tryd.prog PT136 := tab_ok l136_ok
@[simp] theorem PT136_litVar : PT136 85 = g_litVar := rfl
@[simp] theorem PT136_litValid : PT136 110 = g_litValid := rfl
@[simp] theorem PT136_with : PT136 26 = g_with := rfl
@[simp] theorem PT136_without : PT136 25 = g_without := rfl
@[simp] theorem PT136_all : PT136 29 = g_all := rfl
@[simp] theorem PT136_place : PT136 54 = g_place := rfl
@[simp] theorem PT136_vHas : PT136 36 = g_vHas := rfl
@[simp] theorem PT136_vMinus : PT136 31 = g_vMinus := rfl
@[simp] theorem PT136_vCut : PT136 22 = g_vCut := rfl
@[simp] theorem PT136_vUnion : PT136 21 = g_vUnion := rfl
@[simp] theorem PT136_vSub : PT136 72 = g_vSub := rfl
@[simp] theorem PT136_litHolds : PT136 56 = g_litHolds := rfl
@[simp] theorem PT136_nFormed : PT136 84 = g_nFormed := rfl
@[simp] theorem PT136_nCheck : PT136 55 = g_nCheck := rfl
@[simp] theorem PT136_r4Var : PT136 97 = g_r4Var := rfl
@[simp] theorem PT136_r4Valid : PT136 96 = g_r4Valid := rfl
@[simp] theorem PT136_rFormed : PT136 69 = g_rFormed := rfl
@[simp] theorem PT136_rValid20 : PT136 40 = g_rValid20 := rfl
@[simp] theorem PT136_r3Has : PT136 83 = g_r3Has := rfl
end Go.Proofs.YtecdhmiamlgibaaDoor
