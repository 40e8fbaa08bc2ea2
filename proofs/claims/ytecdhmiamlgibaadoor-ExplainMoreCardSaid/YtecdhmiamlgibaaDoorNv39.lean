/- node.Vars; no condition. -/
import Derived.Test.YtecdhmiamlgibaaDoorNx39
import Derived.Test.YtecdhmiamlgibaaDoorWa
namespace Go.Proofs.YtecdhmiamlgibaaDoor
set_option linter.unusedVariables false
set_option linter.unusedSimpArgs false
set_option linter.unusedSectionVars false
open Go.RowKit
attribute [local simp] List.getD_cons_zero List.getD_cons_succ List.getD_nil undef gvars runL runE effA stepA dstOk wantA core lk st dl AS.ev AS.evs AS.put AS.upd updO updI nxt cPick cAlloc cBox cBuild cBuildS cLoad cStore cNil plainOf cBin cNilS isNilS nilA cUn cConvX cConvB cConv bytesOf rowB cMake cSlice slA idxA cFA cF cIA cIX cIS cI cExt cLen cApp cMM cFun cCall lenA lenM isNilM nilM cNilM cMakeM hintB cMapK cLook foundR lookR cUpd putM cDel delM findA isKeyB Instr.sameNow AS.entry AS.bound AS.callee sc1 sc2 ixOk ldA AV.flat AV.cell AV.cells Value.oneCell' fillA spl chunk zeros AS.parts AS.rows AS.shut AS.shut1 AS.shut2 AS.shutL AS.shutM AV.ids idsL idsLL eqAll bndA AV.scalar AV.scalar1 AV.isV Ef.app Ef.pk ptOf pntO wrO wr
attribute [-simp] List.getD_eq_getElem?_getD
set_option maxRecDepth 100000
set_option maxHeartbeats 4000000 in
theorem nVars_p (N : Int) (ns : List Nd) (hN : okI N = true) (h : okNs ns = true) : FnPure Tryd.prog 91 [aNet N ns] (varsA N ns) := by
  have hl := okNs_len h
  obtain ⟨z1, z2⟩ := words0
  unfold aNet aNds varsA
  cases hv : validN N ns
  · rw [if_neg (by decide)]
    have he : errN N ns = 1 := by unfold errN; rw [hv]; rfl
    refine fn_sp TT_ok Tryd.func91 (c := _) rfl (by simp [Tryd.ntmps91]) (fun B hI0 hro => ?_)
    rw [Tryd.ntmps91]
    simp only [enumA]
    refine amGo PT142_ok (h := ?_)
    ((refine post_ret (av := ?_) (by first | exact .inl rfl | exact .inr rfl) (show (Tryd.f91).results.toList = _ from by rw [Tryd.results91]) ?_ ?_); rotate_left; (focus (simp [retA, retL, ret1, lk, st, ldA, AV.cell]; rfl)); (try simp [*]))
  rw [if_pos rfl]
  have he : errN N ns = 0 := by unfold errN; rw [hv]; rfl
  unfold aSets
  have hcap : 16 * (ns.length : Int) ≤ 281474976710656 := by omega
  have hcap2 : (ns.length : Int) ≤ 9223372036854775807 := by omega
  refine fn_sp TT_ok Tryd.func91 (c := _) rfl (by simp [Tryd.ntmps91]) (fun B hI0 hro => ?_)
  rw [Tryd.ntmps91]
  simp only [enumA]
  refine amGo PT142_ok (h := ?_)
  have hV : (varsL ns).length = ns.length := scanN_len nodeS ns
  have hfix : ∀ k, k < ns.length → _ := fun k hk => vars_fix hv hk
  obtain ⟨V, hVV⟩ : ∃ V, varsL ns = V := ⟨_, rfl⟩
  rw [hVV] at hV hfix ⊢
  clear hVV
  refine s_loop (J := fun i : {p : Nat × List (BitVec 128) // p.1 ≤ ns.length ∧ p.2.length = ns.length ∧ ∀ j, j < p.1 → p.2.getD j 0#128 = V.getD j 0#128} => ⟨53, [(1, .ptr 0 0 0), (3, .ref 4 0 ns.length), (16, .sl 3 (ns.map fun x => [AV.v (.int .i64 x.1), .v (.int .i64 x.2.1), aInts x.2.2])), (17, .v (.int .i64 (ns.length : Int))), (18, .v (.int .i64 (i.1.1 : Int)))], [(4, ⟨27, 2, i.1.2.map fun s => [AV.v (.int .u64 ((lo s).toNat : Int)), .v (.int .u64 ((hi s).toNat : Int))]⟩), (0, ⟨24, 2, [[.v (.int .i64 N), .sl 3 (ns.map fun x => [AV.v (.int .i64 x.1), .v (.int .i64 x.2.1), aInts x.2.2])]]⟩)], [4, 0]⟩) (μ := fun i => ns.length - i.1.1) ⟨(0, List.replicate ns.length 0#128), Nat.zero_le _, List.length_replicate .., fun j hj => by omega⟩ ?_ (fun ⟨⟨k, LL⟩, hk, hLL, hpre⟩ => ?_)
  · (refine weak_id rfl ?_ ?_ <;> ((try simp only [List.mem_cons, List.not_mem_nil, or_false, forall_eq_or_imp, forall_eq]); (try simp (disch := omega) [i64w, *])))
  dsimp only at hk hLL hpre
  dsimp only
  refine amStr (h := ?_)
  refine amReg PT142_ok (h := ?_)
  refine amStr (h := ?_)
  (focus ((with_reducible refine sp_cond (b := ?_) ?_ (fun hc => ?_) (fun hc => ?_)); rotate_left; (focus (first | rfl | (simp [lk, AS.ev]; rfl))); all_goals (try simp at hc)))
  · have hkk := hc
    clear hc
    have hfm := valid_form hv hkk
    obtain ⟨o1, o2, o3, o5⟩ := okNs_at h hkk
    have o6 := okInts_len o3
    have hf := hfix k hkk
    clear hfix
    have hacc : ∀ j, j < (ns.getD k nd0).2.2.length → _ := fun j hj => accV_succ (ns.getD k nd0) V hj
    have hin : ∀ j, j < (ns.getD k nd0).2.2.length → ∃ m : Nat, (ns.getD k nd0).2.2.getD j 0 = (m : Int) ∧ m < k := fun j hj => by
      have := form_in hfm (gmemI hj)
      exact ⟨((ns.getD k nd0).2.2.getD j 0).toNat, by omega, by omega⟩
    have hacc0 : accV (ns.getD k nd0) V 0 = sBit (litVar (ns.getD k nd0).2.1) := rfl
    obtain ⟨v1, v2⟩ := litVar_range (ns.getD k nd0).2.1
    have hov : okI (litVar (ns.getD k nd0).2.1) = true := okI_iff.2 ⟨by omega, by omega⟩
    have hone : toInts (.sl 1 [[.v (.int .i64 (litVar (ns.getD k nd0).2.1))]]) = some [litVar (ns.getD k nd0).2.1] := rfl
    have hok1 : okInts [litVar (ns.getD k nd0).2.1] = true := by simp [okInts, hov]
    have hof := ofL_one (litVar (ns.getD k nd0).2.1)
    refine amStr (h := ?_)
    refine amReg PT142_ok (h := ?_)
    refine amStr (h := ?_)
    refine amReg PT142_ok (h := ?_)
    refine amStr (h := ?_)
    refine amReg PT142_ok (h := ?_)
    refine amStr (h := ?_)
    have hLk : k < LL.length := by omega
    generalize hS : sBit (litVar (ns.getD k nd0).2.1) = S0 at hacc0 ⊢
    refine s_loop (J := fun i : {q : Nat × List (BitVec 128) // q.1 ≤ (ns.getD k nd0).2.2.length ∧ q.2.length = ns.length ∧ (∀ j, j < k → q.2.getD j 0#128 = V.getD j 0#128) ∧ q.2.getD k 0#128 = accV (ns.getD k nd0) V q.1} => ⟨53, [(1, .ptr 0 0 0), (3, .ref 4 0 ns.length), (4, .v (.int .i64 (k : Int))), (16, .sl 3 (ns.map fun x => [AV.v (.int .i64 x.1), .v (.int .i64 x.2.1), aInts x.2.2])), (17, .v (.int .i64 (ns.length : Int))), (18, .v (.int .i64 (k : Int))), (32, aInts (ns.getD k nd0).2.2), (33, .v (.int .i64 ((ns.getD k nd0).2.2.length : Int))), (34, .v (.int .i64 (i.1.1 : Int)))], [(4, ⟨27, 2, i.1.2.map fun s => [AV.v (.int .u64 ((lo s).toNat : Int)), .v (.int .u64 ((hi s).toNat : Int))]⟩), (0, ⟨24, 2, [[.v (.int .i64 N), .sl 3 (ns.map fun x => [AV.v (.int .i64 x.1), .v (.int .i64 x.2.1), aInts x.2.2])]]⟩)], [4, 0]⟩) (μ := fun i => (ns.getD k nd0).2.2.length - i.1.1) ⟨(0, LL.set k S0), Nat.zero_le _, by simp [hLL], fun j hj => by rw [getD_set_ne (by omega)]; exact hpre j hj, by rw [getD_set_eq hLk, hacc0]⟩ ?_ (fun ⟨⟨j, MM⟩, hj, hMM, hpm, hAc⟩ => ?_)
    · (refine weak_id rfl ?_ ?_ <;> ((try simp only [List.mem_cons, List.not_mem_nil, or_false, forall_eq_or_imp, forall_eq]); (try simp (disch := omega) [i64w, *])))
    clear hLk
    dsimp only at hj hMM hpm hAc
    dsimp only
    replace hacc := hacc j
    replace hin := hin j
    clear hacc0 hS hone hok1 hof hov v1 v2
    refine amStr (h := ?_)
    refine amReg PT142_ok (h := ?_)
    refine amStr (h := ?_)
    (focus ((with_reducible refine sp_cond (b := ?_) ?_ (fun hc => ?_) (fun hc => ?_)); rotate_left; (focus (first | rfl | (simp [lk, AS.ev]; rfl))); all_goals (try simp at hc)))
    · have hjj := hc
      clear hc
      replace hacc := hacc hjj
      obtain ⟨m, hm1, hm2⟩ := hin hjj
      have hBm := hpm m hm2
      rw [hm1, Int.toNat_natCast, ← hAc, ← hBm] at hacc
      have hMk : k < MM.length := by omega
      have hMm : m < MM.length := by omega
      have hmn : m < ns.length := by omega
      clear hin hfm hf hBm
      refine amStr (h := ?_)
      refine amReg PT142_ok (h := ?_)
      refine amStr (h := ?_)
      refine amDrw PT142_ok (h := ?_)
      refine amStr (h := ?_)
      refine amReg PT142_ok (h := ?_)
      refine k_lp (⟨(j + 1, MM.set k (MM.getD k 0#128 ||| MM.getD m 0#128)), by omega, by simp [hMM], fun j hj => by rw [getD_set_ne (by omega)]; exact hpm j hj, by rw [getD_set_eq hMk, hacc]⟩ : {q : Nat × List (BitVec 128) // q.1 ≤ (ns.getD k nd0).2.2.length ∧ q.2.length = ns.length ∧ (∀ j, j < k → q.2.getD j 0#128 = V.getD j 0#128) ∧ q.2.getD k 0#128 = accV (ns.getD k nd0) V q.1}) (by first | omega | (dsimp only; omega)) ?_
      (refine weak_id rfl ?_ ?_ <;> ((try simp only [List.mem_cons, List.not_mem_nil, or_false, forall_eq_or_imp, forall_eq]); (try simp (disch := omega) [i64w, *])))
    · obtain rfl : j = (ns.getD k nd0).2.2.length := by omega
      clear hacc hin
      rw [← hf] at hAc
      refine amStr (h := ?_)
      refine amReg PT142_ok (h := ?_)
      refine k_lp (⟨(k + 1, MM), by omega, hMM, fun j hj => ?_⟩ : {p : Nat × List (BitVec 128) // p.1 ≤ ns.length ∧ p.2.length = ns.length ∧ ∀ j, j < p.1 → p.2.getD j 0#128 = V.getD j 0#128}) (by first | omega | (dsimp only; omega)) ?_
      · by_cases e : j < k
        · exact hpm j e
        · obtain rfl : j = k := by omega
          exact hAc
      · (refine weak_id rfl ?_ ?_ <;> ((try simp only [List.mem_cons, List.not_mem_nil, or_false, forall_eq_or_imp, forall_eq]); (try simp (disch := omega) [i64w, *])))
  · obtain rfl : k = ns.length := by omega
    have : LL = V := ext_getD 0#128 (by omega) (fun i hi => hpre i (by omega))
    subst this
    refine amGo PT142_ok (h := ?_)
    ((refine post_ret (av := ?_) (by first | exact .inl rfl | exact .inr rfl) (show (Tryd.f91).results.toList = _ from by rw [Tryd.results91]) ?_ ?_); rotate_left; (focus (simp [retA, retL, ret1, lk, st, ldA, AV.cell]; rfl)); (try simp [*]))
    rw [← hLL, take_map_len]
    exact ⟨d_ids_aSets LL, rfl⟩
@[simp] def g_nVars : List AV → Option (AV × Bool)
  | [.agg [.v (.int .i64 N), a0]] => (match toNds a0 with | some ns => if (okI N && okNs ns) = true then some (varsA N ns, false) else none | none => none)
  | _ => none
theorem e_nVars : EntOk Tryd.prog 91 g_nVars := ent_pure (by kernel_rfl) fun args r fr h => by
  unfold g_nVars at h
  split at h
  · rename_i N a0
    split at h
    · rename_i ns t0
      split at h
      · rename_i hc
        simp only [Bool.and_eq_true] at hc
        obtain ⟨m0, o0⟩ := hc
        cases h
        exact ⟨FnPure.cov (nVars_p N ns m0 o0) (.cons (cov_th _ (cov_nds t0)) .nil), rfl⟩
      · cases h
    · cases h
  · cases h

def l143 : List (FuncId × (List AV → Option (AV × Bool))) :=
  (91, g_nVars) :: l142
theorem l143_ok : ∀ p ∈ l143, EntOk Tryd.prog p.1 p.2 := ent_cons e_nVars (l142_ok)
def PT143 : PTab := tab l143
theorem PT143_ok : PTok Tryd.prog PT143 := tab_ok l143_ok
@[simp] theorem PT143_litVar : PT143 85 = g_litVar := rfl
@[simp] theorem PT143_litValid : PT143 110 = g_litValid := rfl
@[simp] theorem PT143_with : PT143 26 = g_with := rfl
@[simp] theorem PT143_without : PT143 25 = g_without := rfl
@[simp] theorem PT143_all : PT143 29 = g_all := rfl
@[simp] theorem PT143_place : PT143 54 = g_place := rfl
@[simp] theorem PT143_vHas : PT143 36 = g_vHas := rfl
@[simp] theorem PT143_vMinus : PT143 31 = g_vMinus := rfl
@[simp] theorem PT143_vCut : PT143 22 = g_vCut := rfl
@[simp] theorem PT143_vUnion : PT143 21 = g_vUnion := rfl
@[simp] theorem PT143_vSub : PT143 72 = g_vSub := rfl
@[simp] theorem PT143_litHolds : PT143 56 = g_litHolds := rfl
@[simp] theorem PT143_nFormed : PT143 84 = g_nFormed := rfl
@[simp] theorem PT143_nCheck : PT143 55 = g_nCheck := rfl
@[simp] theorem PT143_r4Var : PT143 97 = g_r4Var := rfl
@[simp] theorem PT143_r4Valid : PT143 96 = g_r4Valid := rfl
@[simp] theorem PT143_rFormed : PT143 69 = g_rFormed := rfl
@[simp] theorem PT143_rValid20 : PT143 40 = g_rValid20 := rfl
@[simp] theorem PT143_r3Has : PT143 83 = g_r3Has := rfl
@[simp] theorem PT143_r3List : PT143 70 = g_r3List := rfl
@[simp] theorem PT143_r3Len : PT143 41 = g_r3Len := rfl
@[simp] theorem PT143_light39 : PT143 39 = g_light39 := rfl
@[simp] theorem PT143_r20Vars : PT143 71 = g_r20Vars := rfl
@[simp] theorem PT143_r39Mat : PT143 42 = g_r39Mat := rfl
@[simp] theorem PT143_few39 : PT143 12 = g_few39 := rfl
@[simp] theorem PT143_vOf : PT143 23 = g_vOf := rfl
@[simp] theorem PT143_nVars : PT143 91 = g_nVars := rfl
end Go.Proofs.YtecdhmiamlgibaaDoor
