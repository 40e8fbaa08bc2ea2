/- The table of a net and an assignment: open; Biased; no condition. -/
import Derived.Test.YtecdhmiamlgibaaDoorTq39
import Derived.Test.YtecdhmiamlgibaaDoorWa
/- Bi39: The table of a net and an assignment: open; Biased; no condition. -/
namespace Go.Proofs.YtecdhmiamlgibaaDoor
set_option linter.unusedVariables false
set_option linter.unusedSimpArgs false
set_option linter.unusedSectionVars false
open Go.RowKit
attribute [local simp] List.getD_cons_zero List.getD_cons_succ List.getD_nil undef gvars runL runE effA stepA dstOk wantA core lk st dl AS.ev AS.evs AS.put AS.upd updO updI nxt cPick cAlloc cBox cBuild cBuildS cLoad cStore cNil plainOf cBin cNilS isNilS nilA cUn cConvX cConvB cConv bytesOf rowB cMake cSlice slA idxA cFA cF cIA cIX cIS cI cExt cLen cApp cMM cFun cCall lenA lenM isNilM nilM cNilM cMakeM hintB cMapK cLook foundR lookR cUpd putM cDel delM findA isKeyB Instr.sameNow AS.entry AS.bound AS.callee sc1 sc2 ixOk ldA AV.flat AV.cell AV.cells Value.oneCell' fillA spl chunk zeros AS.parts AS.rows AS.shut AS.shut1 AS.shut2 AS.shutL AS.shutM AV.ids idsL idsLL eqAll bndA AV.scalar AV.scalar1 AV.isV Ef.app Ef.pk ptOf pntO wrO wr
attribute [-simp] List.getD_eq_getElem?_getD
set_option maxRecDepth 100000
@[simp ↓ high] theorem d_ids_aBools (l : List Bool) : (aBools l).ids = [] := by unfold aBools; simp only [AV.ids]; exact d_ids_bools l
abbrev subB (a : BitVec 128) (N : Int) : Bool := sSub a (sAll N)
def openR (N : Int) (ns : List Nd) (a : BitVec 128) : AV :=
  if (validN N ns && subB a N) = false then .tup [.v (.pointer none), .v (.int .i64 0), .v (.int .i64 1)]
  else if 16 < (matL ns).length then .tup [.v (.pointer none), .v (.int .i64 0), .v (.int .i64 2)]
  else .tup [aTab N (matL ns) (onL (matL ns) ns), .v (.int .i64 (idxN (matL ns) a : Int)), .v (.int .i64 0)]
theorem valid_N {N : Int} {ns : List Nd} (h : validN N ns = true) : 0 ≤ N ∧ N ≤ 128 := by
  unfold validN at h
  simp only [Bool.and_eq_true, decide_eq_true_eq] at h
  omega
theorem open_p (N : Int) (ns : List Nd) (a : BitVec 128) (hN : okI N = true) (h : okNs ns = true) : FnPure Tryd.prog 43 [aNet N ns, aSet a] (openR N ns a) := by
  have hl := okNs_len h
  unfold openR
  cases hv : validN N ns
  · have he : errN N ns = 1 := by unfold errN; rw [hv]; rfl
    unfold aNet aNds aSet WV
    refine fn_sp TT_ok Tryd.func43 (c := _) rfl (by simp [Tryd.ntmps43]) (fun B hI0 hro => ?_)
    rw [Tryd.ntmps43]
    simp only [enumA]
    refine amStr (h := ?_)
    refine amReg PT149_ok (h := ?_)
    refine amStr (h := ?_)
    refine amDrw PT149_ok (h := ?_)
    refine amGo PT149_ok (h := ?_)
    ((refine post_ret (av := ?_) (by first | exact .inl rfl | exact .inr rfl) (show (Tryd.f43).results.toList = _ from by rw [Tryd.results43]) ?_ ?_); rotate_left; (focus (simp [retA, retL, ret1, lk, st, ldA, AV.cell]; rfl)); (try simp [*]))
  have he : errN N ns = 0 := by unfold errN; rw [hv]; rfl
  obtain ⟨n0, n1⟩ := valid_N hv
  rw [Bool.true_and]
  cases hs : subB a N
  · unfold aNet aNds aSet WV
    refine fn_sp TT_ok Tryd.func43 (c := _) rfl (by simp [Tryd.ntmps43]) (fun B hI0 hro => ?_)
    rw [Tryd.ntmps43]
    simp only [enumA]
    refine amStr (h := ?_)
    refine amReg PT149_ok (h := ?_)
    refine amStr (h := ?_)
    refine amDrw PT149_ok (h := ?_)
    refine amGo PT149_ok (h := ?_)
    ((refine post_ret (av := ?_) (by first | exact .inl rfl | exact .inr rfl) (show (Tryd.f43).results.toList = _ from by rw [Tryd.results43]) ?_ ?_); rotate_left; (focus (simp [retA, retL, ret1, lk, st, ldA, AV.cell]; rfl)); (try simp [*]))
  rw [if_neg (by decide)]
  by_cases h16 : 16 < (matL ns).length
  · rw [if_pos h16]
    have ht : tbdR N ns = .tup [.v (.pointer none), .v (.int .i64 2)] := by unfold tbdR; rw [hv, if_neg (by decide), if_pos h16]
    unfold aNet aNds aSet WV
    refine fn_sp TT_ok Tryd.func43 (c := _) rfl (by simp [Tryd.ntmps43]) (fun B hI0 hro => ?_)
    rw [Tryd.ntmps43]
    simp only [enumA]
    refine amStr (h := ?_)
    refine amReg PT149_ok (h := ?_)
    refine amStr (h := ?_)
    refine amDrw PT149_ok (h := ?_)
    refine amGo PT149_ok (h := ?_)
    ((refine post_ret (av := ?_) (by first | exact .inl rfl | exact .inr rfl) (show (Tryd.f43).results.toList = _ from by rw [Tryd.results43]) ?_ ?_); rotate_left; (focus (simp [retA, retL, ret1, lk, st, ldA, AV.cell]; rfl)); (try simp [*]))
  · rw [if_neg h16]
    have ht : tbdR N ns = .tup [.pt [.v (.int .i64 N), aInts (matL ns), aBools (onL (matL ns) ns)], .v (.int .i64 0)] := by unfold tbdR; rw [hv, if_neg (by decide), if_neg h16]; rfl
    have hok := matL_ok (Nat.le_of_not_lt h16)
    unfold aNet aNds aTab aSet WV
    generalize matL ns = vs at ht hok ⊢
    generalize onL vs ns = on at ht ⊢
    refine fn_sp TT_ok Tryd.func43 (c := _) rfl (by simp [Tryd.ntmps43]) (fun B hI0 hro => ?_)
    rw [Tryd.ntmps43]
    simp only [enumA]
    refine amStr (h := ?_)
    refine amReg PT149_ok (h := ?_)
    refine amStr (h := ?_)
    refine amDrw PT149_ok (h := ?_)
    refine amGo PT149_ok (h := ?_)
    ((refine post_ret (av := ?_) (by first | exact .inl rfl | exact .inr rfl) (show (Tryd.f43).results.toList = _ from by rw [Tryd.results43]) ?_ ?_); rotate_left; (focus (simp [retA, retL, ret1, lk, st, ldA, AV.cell]; rfl)); (try simp [*]))
@[simp] def g_tOpen : List AV → Option (AV × Bool)
  | [.agg [.v (.int .i64 N), a0], a1] => (match toNds a0 with | some ns => (match toSet a1 with | some a => if (okI N && okNs ns) = true then some (openR N ns a, false) else none | none => none) | none => none)
  | _ => none
theorem e_tOpen : EntOk Tryd.prog 43 g_tOpen := ent_pure (by kernel_rfl) fun args r fr h => by
  unfold g_tOpen at h
  split at h
  · rename_i N a0 a1
    split at h
    · rename_i ns t0
      split at h
      · rename_i a t1
        split at h
        · rename_i hc
          simp only [Bool.and_eq_true] at hc
          obtain ⟨m0, o0⟩ := hc
          cases h
          exact ⟨FnPure.cov (open_p N ns a m0 o0) (.cons (cov_th _ (cov_nds t0)) (.cons (toSet_inv t1 ▸ Cov.refl _) .nil)), rfl⟩
        · cases h
      · cases h
    · cases h
  · cases h

def l150 : List (FuncId × (List AV → Option (AV × Bool))) :=
  (43, g_tOpen) :: l149
theorem l150_ok : ∀ p ∈ l150, EntOk Tryd.prog p.1 p.2 := ent_cons e_tOpen (l149_ok)
def PT150 : PTab := tab l150
theorem PT150_ok : PTok Tryd.prog PT150 := tab_ok l150_ok
@[simp] theorem PT150_litVar : PT150 85 = g_litVar := rfl
@[simp] theorem PT150_litValid : PT150 110 = g_litValid := rfl
@[simp] theorem PT150_with : PT150 26 = g_with := rfl
@[simp] theorem PT150_without : PT150 25 = g_without := rfl
@[simp] theorem PT150_all : PT150 29 = g_all := rfl
@[simp] theorem PT150_place : PT150 54 = g_place := rfl
@[simp] theorem PT150_vHas : PT150 36 = g_vHas := rfl
@[simp] theorem PT150_vMinus : PT150 31 = g_vMinus := rfl
@[simp] theorem PT150_vCut : PT150 22 = g_vCut := rfl
@[simp] theorem PT150_vUnion : PT150 21 = g_vUnion := rfl
@[simp] theorem PT150_vSub : PT150 72 = g_vSub := rfl
@[simp] theorem PT150_litHolds : PT150 56 = g_litHolds := rfl
@[simp] theorem PT150_nFormed : PT150 84 = g_nFormed := rfl
@[simp] theorem PT150_nCheck : PT150 55 = g_nCheck := rfl
@[simp] theorem PT150_r4Var : PT150 97 = g_r4Var := rfl
@[simp] theorem PT150_r4Valid : PT150 96 = g_r4Valid := rfl
@[simp] theorem PT150_rFormed : PT150 69 = g_rFormed := rfl
@[simp] theorem PT150_rValid20 : PT150 40 = g_rValid20 := rfl
@[simp] theorem PT150_r3Has : PT150 83 = g_r3Has := rfl
@[simp] theorem PT150_r3List : PT150 70 = g_r3List := rfl
@[simp] theorem PT150_r3Len : PT150 41 = g_r3Len := rfl
@[simp] theorem PT150_light39 : PT150 39 = g_light39 := rfl
@[simp] theorem PT150_r20Vars : PT150 71 = g_r20Vars := rfl
@[simp] theorem PT150_r39Mat : PT150 42 = g_r39Mat := rfl
@[simp] theorem PT150_few39 : PT150 12 = g_few39 := rfl
@[simp] theorem PT150_vOf : PT150 23 = g_vOf := rfl
@[simp] theorem PT150_nVars : PT150 91 = g_nVars := rfl
@[simp] theorem PT150_tIndex : PT150 53 = g_tIndex := rfl
@[simp] theorem PT150_tTerm : PT150 45 = g_tTerm := rfl
@[simp] theorem PT150_tChg : PT150 44 = g_tChg := rfl
@[simp] theorem PT150_vList : PT150 92 = g_vList := rfl
@[simp] theorem PT150_tTabled : PT150 62 = g_tTabled := rfl
@[simp] theorem PT150_tOpen : PT150 43 = g_tOpen := rfl
end Go.Proofs.YtecdhmiamlgibaaDoor
/- Bj39: Biased; no condition. -/
namespace Go.Proofs.YtecdhmiamlgibaaDoor
set_option linter.unusedVariables false
set_option linter.unusedSimpArgs false
set_option linter.unusedSectionVars false
open Go.RowKit
attribute [local simp] List.getD_cons_zero List.getD_cons_succ List.getD_nil undef gvars runL runE effA stepA dstOk wantA core lk st dl AS.ev AS.evs AS.put AS.upd updO updI nxt cPick cAlloc cBox cBuild cBuildS cLoad cStore cNil plainOf cBin cNilS isNilS nilA cUn cConvX cConvB cConv bytesOf rowB cMake cSlice slA idxA cFA cF cIA cIX cIS cI cExt cLen cApp cMM cFun cCall lenA lenM isNilM nilM cNilM cMakeM hintB cMapK cLook foundR lookR cUpd putM cDel delM findA isKeyB Instr.sameNow AS.entry AS.bound AS.callee sc1 sc2 ixOk ldA AV.flat AV.cell AV.cells Value.oneCell' fillA spl chunk zeros AS.parts AS.rows AS.shut AS.shut1 AS.shut2 AS.shutL AS.shutM AV.ids idsL idsLL eqAll bndA AV.scalar AV.scalar1 AV.isV Ef.app Ef.pk ptOf pntO wrO wr
attribute [-simp] List.getD_eq_getElem?_getD
set_option maxRecDepth 100000
attribute [local simp] aBools
def tabF (ns : List Nd) (i : Nat) : Bool := (onL (matL ns) ns).getD i false
def biasB (ns : List Nd) (a p : BitVec 128) : Bool := chgB (tabF ns) (matL ns).length (idxN (matL ns) a) (idxN (matL ns) p)
def biasR (N : Int) (ns : List Nd) (a p : BitVec 128) : AV :=
  if (validN N ns && subB a N) = false then .tup [.v (.bool false), .v (.int .i64 1)]
  else if 16 < (matL ns).length then .tup [.v (.bool false), .v (.int .i64 2)]
  else .tup [.v (.bool (biasB ns a p)), .v (.int .i64 0)]
theorem onL_len (vs : List Int) (ns : List Nd) : (onL vs ns).length = 2 ^ vs.length := by unfold onL; simp
theorem biased_p (N : Int) (ns : List Nd) (a p : BitVec 128) (hN : okI N = true) (h : okNs ns = true) : FnPure Tryd.prog 20 [aNet N ns, aSet a, aSet p] (biasR N ns a p) := by
  have hl := okNs_len h
  unfold biasR
  cases hv : (validN N ns && subB a N)
  · have he : openR N ns a = .tup [.v (.pointer none), .v (.int .i64 0), .v (.int .i64 1)] := by unfold openR; rw [if_pos hv]
    rw [if_pos rfl]
    unfold aNet aNds aSet WV
    refine fn_sp TT_ok Tryd.func20 (c := _) rfl (by simp [Tryd.ntmps20]) (fun B hI0 hro => ?_)
    rw [Tryd.ntmps20]
    simp only [enumA]
    refine amGo PT150_ok (h := ?_)
    ((refine post_ret (av := ?_) (by first | exact .inl rfl | exact .inr rfl) (show (Tryd.f20).results.toList = _ from by rw [Tryd.results20]) ?_ ?_); rotate_left; (focus (simp [retA, retL, ret1, lk, st, ldA, AV.cell]; rfl)); (try simp [*]))
  rw [if_neg (by decide)]
  by_cases h16 : 16 < (matL ns).length
  · have he : openR N ns a = .tup [.v (.pointer none), .v (.int .i64 0), .v (.int .i64 2)] := by unfold openR; rw [if_neg (by rw [hv]; decide), if_pos h16]
    rw [if_pos h16]
    unfold aNet aNds aSet WV
    refine fn_sp TT_ok Tryd.func20 (c := _) rfl (by simp [Tryd.ntmps20]) (fun B hI0 hro => ?_)
    rw [Tryd.ntmps20]
    simp only [enumA]
    refine amGo PT150_ok (h := ?_)
    ((refine post_ret (av := ?_) (by first | exact .inl rfl | exact .inr rfl) (show (Tryd.f20).results.toList = _ from by rw [Tryd.results20]) ?_ ?_); rotate_left; (focus (simp [retA, retL, ret1, lk, st, ldA, AV.cell]; rfl)); (try simp [*]))
  · rw [if_neg h16]
    have he : openR N ns a = .tup [.pt [.v (.int .i64 N), aInts (matL ns), aBools (onL (matL ns) ns)], .v (.int .i64 (idxN (matL ns) a : Int)), .v (.int .i64 0)] := by unfold openR; rw [if_neg (by rw [hv]; decide), if_neg h16]; rfl
    have hok := matL_ok (Nat.le_of_not_lt h16)
    have hon := onL_len (matL ns) ns
    have hi := idxN_lt (matL ns) a
    have hj := idxN_lt (matL ns) p
    have hcl := chgL_len (fun i => (onL (matL ns) ns).getD i false) (matL ns).length (idxN (matL ns) a)
    have hcg := chgL_get (f := fun i => (onL (matL ns) ns).getD i false) (at0 := idxN (matL ns) a) hj
    have hres : biasB ns a p = (chgL (fun i => (onL (matL ns) ns).getD i false) (matL ns).length (idxN (matL ns) a)).getD (idxN (matL ns) p) false := hcg.symm
    rw [hres]
    clear hcg hres
    generalize matL ns = vs at he hok hon hi hj hcl ⊢
    generalize onL vs ns = on at he hon hi hj hcl ⊢
    obtain ⟨x, hx⟩ : ∃ x, idxN vs a = x := ⟨_, rfl⟩
    obtain ⟨y, hy⟩ : ∃ y, idxN vs p = y := ⟨_, rfl⟩
    rw [hx] at hi hcl he ⊢
    rw [hy] at hj ⊢
    have hp2 : 2 ^ vs.length ≤ 65536 := Nat.pow_le_pow_right (n := 2) (by omega) (show vs.length ≤ 16 from (okV_vs hok).2)
    obtain ⟨L, hL⟩ : ∃ L, 2 ^ vs.length = L := ⟨_, rfl⟩
    rw [hL] at hp2
    rw [hL] at hi hj hon hcl
    generalize hU : chgL (fun i => on.getD i false) vs.length x = U at hcl ⊢
    have hi2 : (x : Int) < (L : Int) := by omega
    have hj2 : (y : Int) < (L : Int) := by omega
    have hjU : y < U.length := by omega
    have hox : okI (x : Int) = true := okI_iff.2 ⟨by omega, by omega⟩
    clear hx
    unfold aNet aNds aSet WV
    refine fn_sp TT_ok Tryd.func20 (c := _) rfl (by simp [Tryd.ntmps20]) (fun B hI0 hro => ?_)
    rw [Tryd.ntmps20]
    simp only [enumA]
    refine amStr (h := ?_)
    refine amReg PT150_ok (h := ?_)
    refine amStr (h := ?_)
    refine amReg PT150_ok (h := ?_)
    refine amStr (h := ?_)
    refine amReg PT150_ok (h := ?_)
    refine amStr (h := ?_)
    refine amDrw PT150_ok (h := ?_)
    refine amStr (h := ?_)
    ((refine post_ret (av := ?_) (by first | exact .inl rfl | exact .inr rfl) (show (Tryd.f20).results.toList = _ from by rw [Tryd.results20]) ?_ ?_); rotate_left; (focus (simp [retA, retL, ret1, lk, st, ldA, AV.cell]; rfl)); (try simp [*]))
@[simp] def g_tBiased : List AV → Option (AV × Bool)
  | [.agg [.v (.int .i64 N), a0], a1, a2] => (match toNds a0 with | some ns => (match toSet a1 with | some a => (match toSet a2 with | some p => if (okI N && okNs ns) = true then some (biasR N ns a p, false) else none | none => none) | none => none) | none => none)
  | _ => none
theorem e_tBiased : EntOk Tryd.prog 20 g_tBiased := ent_pure (by kernel_rfl) fun args r fr h => by
  unfold g_tBiased at h
  split at h
  · rename_i N a0 a1 a2
    split at h
    · rename_i ns t0
      split at h
      · rename_i a t1
        split at h
        · rename_i p t2
          split at h
          · rename_i hc
            simp only [Bool.and_eq_true] at hc
            obtain ⟨m0, o0⟩ := hc
            cases h
            exact ⟨FnPure.cov (biased_p N ns a p m0 o0) (.cons (cov_th _ (cov_nds t0)) (.cons (toSet_inv t1 ▸ Cov.refl _) (.cons (toSet_inv t2 ▸ Cov.refl _) .nil))), rfl⟩
          · cases h
        · cases h
      · cases h
    · cases h
  · cases h

def l151 : List (FuncId × (List AV → Option (AV × Bool))) :=
  (20, g_tBiased) :: l150
theorem l151_ok : ∀ p ∈ l151, EntOk Tryd.prog p.1 p.2 := ent_cons e_tBiased (l150_ok)
def PT151 : PTab := tab l151
theorem PT151_ok : PTok Tryd.prog PT151 := tab_ok l151_ok
@[simp] theorem PT151_litVar : PT151 85 = g_litVar := rfl
@[simp] theorem PT151_litValid : PT151 110 = g_litValid := rfl
@[simp] theorem PT151_with : PT151 26 = g_with := rfl
@[simp] theorem PT151_without : PT151 25 = g_without := rfl
@[simp] theorem PT151_all : PT151 29 = g_all := rfl
@[simp] theorem PT151_place : PT151 54 = g_place := rfl
@[simp] theorem PT151_vHas : PT151 36 = g_vHas := rfl
@[simp] theorem PT151_vMinus : PT151 31 = g_vMinus := rfl
@[simp] theorem PT151_vCut : PT151 22 = g_vCut := rfl
@[simp] theorem PT151_vUnion : PT151 21 = g_vUnion := rfl
@[simp] theorem PT151_vSub : PT151 72 = g_vSub := rfl
@[simp] theorem PT151_litHolds : PT151 56 = g_litHolds := rfl
@[simp] theorem PT151_nFormed : PT151 84 = g_nFormed := rfl
@[simp] theorem PT151_nCheck : PT151 55 = g_nCheck := rfl
@[simp] theorem PT151_r4Var : PT151 97 = g_r4Var := rfl
@[simp] theorem PT151_r4Valid : PT151 96 = g_r4Valid := rfl
@[simp] theorem PT151_rFormed : PT151 69 = g_rFormed := rfl
@[simp] theorem PT151_rValid20 : PT151 40 = g_rValid20 := rfl
@[simp] theorem PT151_r3Has : PT151 83 = g_r3Has := rfl
@[simp] theorem PT151_r3List : PT151 70 = g_r3List := rfl
@[simp] theorem PT151_r3Len : PT151 41 = g_r3Len := rfl
@[simp] theorem PT151_light39 : PT151 39 = g_light39 := rfl
@[simp] theorem PT151_r20Vars : PT151 71 = g_r20Vars := rfl
@[simp] theorem PT151_r39Mat : PT151 42 = g_r39Mat := rfl
@[simp] theorem PT151_few39 : PT151 12 = g_few39 := rfl
@[simp] theorem PT151_vOf : PT151 23 = g_vOf := rfl
@[simp] theorem PT151_nVars : PT151 91 = g_nVars := rfl
@[simp] theorem PT151_tIndex : PT151 53 = g_tIndex := rfl
@[simp] theorem PT151_tTerm : PT151 45 = g_tTerm := rfl
@[simp] theorem PT151_tChg : PT151 44 = g_tChg := rfl
@[simp] theorem PT151_vList : PT151 92 = g_vList := rfl
@[simp] theorem PT151_tTabled : PT151 62 = g_tTabled := rfl
@[simp] theorem PT151_tOpen : PT151 43 = g_tOpen := rfl
@[simp] theorem PT151_tBiased : PT151 20 = g_tBiased := rfl
end Go.Proofs.YtecdhmiamlgibaaDoor
