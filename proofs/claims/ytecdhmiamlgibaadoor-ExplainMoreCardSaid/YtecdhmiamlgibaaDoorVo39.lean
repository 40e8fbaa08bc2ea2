/- vars.Of; no condition. -/
import Derived.Test.YtecdhmiamlgibaaDoorFe39
import Derived.Test.YtecdhmiamlgibaaDoorWa
namespace Go.Proofs.YtecdhmiamlgibaaDoor
set_option linter.unusedVariables false
set_option linter.unusedSimpArgs false
set_option linter.unusedSectionVars false
open Go.RowKit
attribute [local simp] List.getD_cons_zero List.getD_cons_succ List.getD_nil undef gvars runL runE effA stepA dstOk wantA core lk st dl AS.ev AS.evs AS.put AS.upd updO updI nxt cPick cAlloc cBox cBuild cBuildS cLoad cStore cNil plainOf cBin cNilS isNilS nilA cUn cConvX cConvB cConv bytesOf rowB cMake cSlice slA idxA cFA cF cIA cIX cIS cI cExt cLen cApp cMM cFun cCall lenA lenM isNilM nilM cNilM cMakeM hintB cMapK cLook foundR lookR cUpd putM cDel delM findA isKeyB Instr.sameNow AS.entry AS.bound AS.callee sc1 sc2 ixOk ldA AV.flat AV.cell AV.cells Value.oneCell' fillA spl chunk zeros AS.parts AS.rows AS.shut AS.shut1 AS.shut2 AS.shutL AS.shutM AV.ids idsL idsLL eqAll bndA AV.scalar AV.scalar1 AV.isV Ef.app Ef.pk ptOf pntO wrO wr
attribute [-simp] List.getD_eq_getElem?_getD
set_option maxRecDepth 100000
@[simp ↓ high] theorem d_flat_set (s : BitVec 128) : (aSet s).flat = true := rfl
@[simp ↓ high] theorem d_cells_set (s : BitVec 128) : (aSet s).cells = [.v (.int .u64 ((lo s).toNat : Int)), .v (.int .u64 ((hi s).toNat : Int))] := rfl
@[simp ↓ high] theorem d_scalar_set (s : BitVec 128) : (aSet s).scalar = true := rfl
@[simp ↓ high] theorem d_ids_set (s : BitVec 128) : (aSet s).ids = [] := rfl
def ofL (xs : List Int) : BitVec 128 := xs.foldl sWith 0#128
theorem ofL_take {xs : List Int} {k : Nat} (hk : k < xs.length) : ofL (xs.take (k + 1)) = sWith (ofL (xs.take k)) (xs.getD k 0) := by
  unfold ofL
  rw [List.take_add_one, List.getElem?_eq_getElem hk, List.foldl_append]
  simp [List.getD, hk]
theorem ofL_one (v : Int) : ofL [v] = sBit v := sWith_zero v
theorem vOf_p (xs : List Int) (h : okInts xs = true) : FnPure Tryd.prog 23 [aInts xs] (aSet (ofL xs)) := by
  have hl := okInts_len h
  obtain ⟨z1, z2⟩ := words0
  unfold aSet WV
  refine fn_sp TT_ok Tryd.func23 (c := _) rfl (by simp [Tryd.ntmps23]) (fun B hI0 hro => ?_)
  rw [Tryd.ntmps23]
  simp only [enumA]
  refine amGo PT141_ok (h := ?_)
  refine s_loop (J := fun i : {k : Nat // k ≤ xs.length} => ⟨17, [(2, .ptr 0 0 0), (3, .ptr 1 0 0), (6, aInts xs), (7, .v (.int .i64 (xs.length : Int))), (8, .v (.int .i64 (i.1 : Int)))], [(1, ⟨27, 2, [[.v (.int .u64 ((lo (ofL (xs.take i.1))).toNat : Int)), .v (.int .u64 ((hi (ofL (xs.take i.1))).toNat : Int))]]⟩), (0, ⟨27, 2, [[.v (.int .u64 0), .v (.int .u64 0)]]⟩)], [1, 0]⟩) (μ := fun i => xs.length - i.1) ⟨0, Nat.zero_le _⟩ ?_ (fun ⟨k, hk⟩ => ?_)
  · have h0 : ofL [] = 0#128 := rfl
    (refine weak_id rfl ?_ ?_ <;> ((try simp only [List.mem_cons, List.not_mem_nil, or_false, forall_eq_or_imp, forall_eq]); (try simp (disch := omega) [i64w, *])))
  refine amGo PT141_ok (h := ?_)
  (focus ((with_reducible refine sp_cond (b := ?_) ?_ (fun hc => ?_) (fun hc => ?_)); rotate_left; (focus (first | rfl | (simp [lk, AS.ev]; rfl))); all_goals (try simp at hc)))
  · have hkk := hc
    clear hc
    have ho := okI_iff.2 (okInts_at h k)
    have hs := ofL_take hkk
    refine amGo PT141_ok (h := ?_)
    refine k_lp (⟨k + 1, by omega⟩ : {k : Nat // k ≤ xs.length}) (by first | omega | (dsimp only; omega)) ?_
    (refine weak_id rfl ?_ ?_ <;> ((try simp only [List.mem_cons, List.not_mem_nil, or_false, forall_eq_or_imp, forall_eq]); (try simp (disch := omega) [i64w, *])))
  · obtain rfl : k = xs.length := by omega
    have e : xs.take xs.length = xs := List.take_length
    rw [e]
    refine amGo PT141_ok (h := ?_)
    ((refine post_ret (av := ?_) (by first | exact .inl rfl | exact .inr rfl) (show (Tryd.f23).results.toList = _ from by rw [Tryd.results23]) ?_ ?_); rotate_left; (focus (simp [retA, retL, ret1, lk, st, ldA, AV.cell]; rfl)); (try simp [*]))
@[simp] def g_vOf : List AV → Option (AV × Bool)
  | [a0] => (match toInts a0 with | some xs => if (okInts xs) = true then some (aSet (ofL xs), false) else none | none => none)
  | _ => none
theorem e_vOf : EntOk Tryd.prog 23 g_vOf := ent_pure (by kernel_rfl) fun args r fr h => by
  unfold g_vOf at h
  split at h
  · rename_i a0
    split at h
    · rename_i xs t0
      split at h
      · rename_i hc
        have o0 := hc
        cases h
        exact ⟨FnPure.cov (vOf_p xs o0) (.cons (cov_ints t0) .nil), rfl⟩
      · cases h
    · cases h
  · cases h

def l142 : List (FuncId × (List AV → Option (AV × Bool))) :=
  (23, g_vOf) :: l141
theorem l142_ok : ∀ p ∈ l142, EntOk Tryd.prog p.1 p.2 := ent_cons e_vOf (l141_ok)
def PT142 : PTab := tab l142
theorem PT142_ok : PTok Tryd.prog PT142 := tab_ok l142_ok
@[simp] theorem PT142_litVar : PT142 85 = g_litVar := rfl
@[simp] theorem PT142_litValid : PT142 110 = g_litValid := rfl
@[simp] theorem PT142_with : PT142 26 = g_with := rfl
@[simp] theorem PT142_without : PT142 25 = g_without := rfl
@[simp] theorem PT142_all : PT142 29 = g_all := rfl
@[simp] theorem PT142_place : PT142 54 = g_place := rfl
@[simp] theorem PT142_vHas : PT142 36 = g_vHas := rfl
@[simp] theorem PT142_vMinus : PT142 31 = g_vMinus := rfl
@[simp] theorem PT142_vCut : PT142 22 = g_vCut := rfl
@[simp] theorem PT142_vUnion : PT142 21 = g_vUnion := rfl
@[simp] theorem PT142_vSub : PT142 72 = g_vSub := rfl
@[simp] theorem PT142_litHolds : PT142 56 = g_litHolds := rfl
@[simp] theorem PT142_nFormed : PT142 84 = g_nFormed := rfl
@[simp] theorem PT142_nCheck : PT142 55 = g_nCheck := rfl
@[simp] theorem PT142_r4Var : PT142 97 = g_r4Var := rfl
@[simp] theorem PT142_r4Valid : PT142 96 = g_r4Valid := rfl
@[simp] theorem PT142_rFormed : PT142 69 = g_rFormed := rfl
@[simp] theorem PT142_rValid20 : PT142 40 = g_rValid20 := rfl
@[simp] theorem PT142_r3Has : PT142 83 = g_r3Has := rfl
@[simp] theorem PT142_r3List : PT142 70 = g_r3List := rfl
@[simp] theorem PT142_r3Len : PT142 41 = g_r3Len := rfl
@[simp] theorem PT142_light39 : PT142 39 = g_light39 := rfl
@[simp] theorem PT142_r20Vars : PT142 71 = g_r20Vars := rfl
@[simp] theorem PT142_r39Mat : PT142 42 = g_r39Mat := rfl
@[simp] theorem PT142_few39 : PT142 12 = g_few39 := rfl
@[simp] theorem PT142_vOf : PT142 23 = g_vOf := rfl
end Go.Proofs.YtecdhmiamlgibaaDoor
