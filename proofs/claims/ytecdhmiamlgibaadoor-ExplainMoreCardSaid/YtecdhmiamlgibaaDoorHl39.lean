/- The reference's List of a set; no condition. -/
import Derived.Test.YtecdhmiamlgibaaDoorHs39
import Derived.Test.YtecdhmiamlgibaaDoorWa
namespace Go.Proofs.YtecdhmiamlgibaaDoor
set_option linter.unusedVariables false
set_option linter.unusedSimpArgs false
set_option linter.unusedSectionVars false
open Go.RowKit
attribute [local simp] List.getD_cons_zero List.getD_cons_succ List.getD_nil undef gvars runL runE effA stepA dstOk wantA core lk st dl AS.ev AS.evs AS.put AS.upd updO updI nxt cPick cAlloc cBox cBuild cBuildS cLoad cStore cNil plainOf cBin cNilS isNilS nilA cUn cConvX cConvB cConv bytesOf rowB cMake cSlice slA idxA cFA cF cIA cIX cIS cI cExt cLen cApp cMM cFun cCall lenA lenM isNilM nilM cNilM cMakeM hintB cMapK cLook foundR lookR cUpd putM cDel delM findA isKeyB Instr.sameNow AS.entry AS.bound AS.callee sc1 sc2 ixOk ldA AV.flat AV.cell AV.cells Value.oneCell' fillA spl chunk zeros AS.parts AS.rows AS.shut AS.shut1 AS.shut2 AS.shutL AS.shutM AV.ids idsL idsLL eqAll bndA AV.scalar AV.scalar1 AV.isV Ef.app Ef.pk ptOf pntO wrO wr
attribute [-simp] List.getD_eq_getElem?_getD
set_option maxRecDepth 100000
theorem r3List_p (s : BitVec 128) : FnPure Tryd.prog 70 [aSet s] (aInts (listS s)) := by
  rw [← listT_eq s]
  unfold aSet WV
  refine fn_sp TT_ok Tryd.func70 (c := _) rfl (by simp [Tryd.ntmps70]) (fun B hI0 hro => ?_)
  rw [Tryd.ntmps70]
  simp only [enumA]
  refine amGo PT136_ok (h := ?_)
  refine s_nil 3 50 3 1 (by simp [lk]) (by simp) ?_
  simp only [st]
  refine s_loop (J := fun i : {k : Nat // k ≤ 128} => ⟨17, [(1, .ptr 0 0 0), (3, .ref 50 0 (listT s i.1).length), (4, .v (.int .i64 ((i.1 : Int) + 1)))], [(50, ⟨3, 1, (listT s i.1).map fun x => [.v (.int .i64 x)]⟩), (0, ⟨27, 2, [[.v (.int .u64 ((lo s).toNat : Int)), .v (.int .u64 ((hi s).toNat : Int))]]⟩)], [50, 0]⟩) (μ := fun i => 128 - i.1) ⟨0, Nat.zero_le _⟩ ?_ (fun ⟨k, hk⟩ => ?_)
  · (refine weak_id rfl ?_ ?_ <;> ((try simp only [List.mem_cons, List.not_mem_nil, or_false, forall_eq_or_imp, forall_eq]); (try simp (disch := omega) [i64w, *])))
    all_goals simp [listT]
  have hs := listT_succ s k
  have hl := listT_len s k
  have hcap : ((listT s k).length + 1) * 8 ≤ 140737488355328 := by omega
  have hw2 : IntKind.i64.wrap ((k : Int) + 1 + 1) = (k : Int) + 1 + 1 := i64w (by omega) (by omega)
  have ho2 : okI ((k : Int) + 1) = true := okI_iff.2 ⟨by omega, by omega⟩
  have hkm : (k : Int) + 1 ≤ 128 ↔ k < 128 := by omega
  obtain ⟨v, hv⟩ : ∃ v, (k : Int) + 1 = v := ⟨_, rfl⟩
  have hj : ((k + 1 : Nat) : Int) + 1 = v + 1 := by omega
  rw [hv] at hs hw2 ho2 hkm
  dsimp only
  rw [hv]
  clear hv
  by_cases hkm2 : v ≤ 128
  · have hlt := hkm.1 hkm2
    clear hkm
    cases h1 : sHas s v
    · rw [if_neg (by rw [h1]; decide)] at hs
      refine amGo PT136_ok (h := ?_)
      refine k_lp (⟨k + 1, by omega⟩ : {k : Nat // k ≤ 128}) (by dsimp only; omega) ?_
      (refine weak_id rfl ?_ ?_ <;> ((try simp only [List.mem_cons, List.not_mem_nil, or_false, forall_eq_or_imp, forall_eq]); (try simp (disch := omega) [i64w, *])))
      all_goals omega
    · rw [if_pos h1] at hs
      refine amGo PT136_ok (h := ?_)
      refine k_lp (⟨k + 1, by omega⟩ : {k : Nat // k ≤ 128}) (by dsimp only; omega) ?_
      (refine weak_of (fun q => if q = 50 then 54 else q) ⟨rfl, ?_, ?_, ?_⟩ <;> ((try simp only [List.mem_cons, List.not_mem_nil, or_false, forall_eq_or_imp, forall_eq]); (try simp (disch := omega) [lk, AV.ids, idsL, idsLL, AV.ren, renL, renLL, i64w, *])))
      all_goals omega
  · obtain rfl : k = 128 := by omega
    refine amGo PT136_ok (h := ?_)
    ((refine post_ret (av := ?_) (by first | exact .inl rfl | exact .inr rfl) (show (Tryd.f70).results.toList = _ from by rw [Tryd.results70]) ?_ ?_); rotate_left; (focus (simp [retA, retL, ret1, lk, st, ldA, AV.cell]; rfl)); (try simp [*]))
@[simp] def g_r3List : List AV → Option (AV × Bool)
  | [a0] => (match toSet a0 with | some s => if (true) = true then some (aInts (listS s), false) else none | none => none)
  | _ => none
theorem e_r3List : EntOk Tryd.prog 70 g_r3List := ent_pure (by kernel_rfl) fun args r fr h => by
  unfold g_r3List at h
  split at h
  · rename_i a0
    split at h
    · rename_i s t0
      split at h
      · rename_i hc
        cases h
        exact ⟨FnPure.cov (r3List_p s) (.cons (toSet_inv t0 ▸ Cov.refl _) .nil), rfl⟩
      · cases h
    · cases h
  · cases h

def l137 : List (FuncId × (List AV → Option (AV × Bool))) :=
  (70, g_r3List) :: l136
theorem l137_ok : ∀ p ∈ l137, EntOk Tryd.prog p.1 p.2 := ent_cons e_r3List (l136_ok)
def PT137 : PTab := tab l137
theorem PT137_ok : PTok Tryd.prog PT137 := tab_ok l137_ok
@[simp] theorem PT137_litVar : PT137 85 = g_litVar := rfl
@[simp] theorem PT137_litValid : PT137 110 = g_litValid := rfl
@[simp] theorem PT137_with : PT137 26 = g_with := rfl
@[simp] theorem PT137_without : PT137 25 = g_without := rfl
@[simp] theorem PT137_all : PT137 29 = g_all := rfl
@[simp] theorem PT137_place : PT137 54 = g_place := rfl
@[simp] theorem PT137_vHas : PT137 36 = g_vHas := rfl
@[simp] theorem PT137_vMinus : PT137 31 = g_vMinus := rfl
@[simp] theorem PT137_vCut : PT137 22 = g_vCut := rfl
@[simp] theorem PT137_vUnion : PT137 21 = g_vUnion := rfl
@[simp] theorem PT137_vSub : PT137 72 = g_vSub := rfl
@[simp] theorem PT137_litHolds : PT137 56 = g_litHolds := rfl
@[simp] theorem PT137_nFormed : PT137 84 = g_nFormed := rfl
@[simp] theorem PT137_nCheck : PT137 55 = g_nCheck := rfl
@[simp] theorem PT137_r4Var : PT137 97 = g_r4Var := rfl
@[simp] theorem PT137_r4Valid : PT137 96 = g_r4Valid := rfl
@[simp] theorem PT137_rFormed : PT137 69 = g_rFormed := rfl
@[simp] theorem PT137_rValid20 : PT137 40 = g_rValid20 := rfl
@[simp] theorem PT137_r3Has : PT137 83 = g_r3Has := rfl
@[simp] theorem PT137_r3List : PT137 70 = g_r3List := rfl
end Go.Proofs.YtecdhmiamlgibaaDoor
