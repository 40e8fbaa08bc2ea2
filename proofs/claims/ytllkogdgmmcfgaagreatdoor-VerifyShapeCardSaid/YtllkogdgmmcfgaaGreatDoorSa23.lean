/- censuslaw23.apart; no condition. -/
import Derived.Test.YtllkogdgmmcfgaaGreatDoorSd23
import Derived.Test.YtllkogdgmmcfgaaGreatDoorWa
namespace Go.Proofs.YtllkogdgmmcfgaaGreatDoor
set_option linter.unusedVariables false
set_option linter.unusedSimpArgs false
set_option linter.unusedSectionVars false
open Go.RowKit
attribute [local simp] List.getD_cons_zero List.getD_cons_succ List.getD_nil undef gvars runL runE effA stepA dstOk wantA core lk st dl AS.ev AS.evs AS.put AS.upd updO updI nxt cPick cAlloc cBox cBuild cBuildS cLoad cStore cNil plainOf cBin cNilS isNilS nilA cUn cConvX cConvB cConv bytesOf rowB cMake cSlice slA idxA cFA cF cIA cIX cIS cI cExt cLen cApp cMM cFun cCall lenA lenM isNilM nilM cNilM cMakeM hintB cMapK cLook foundR lookR cUpd putM cDel delM findA isKeyB Instr.sameNow AS.entry AS.bound AS.callee sc1 sc2 ixOk ldA AV.flat AV.cell AV.cells Value.oneCell' fillA spl chunk zeros AS.parts AS.rows AS.shut AS.shut1 AS.shut2 AS.shutL AS.shutM AV.ids idsL idsLL eqAll bndA AV.scalar AV.scalar1 AV.isV Ef.app Ef.pk ptOf pntO wrO wr
attribute [-simp] List.getD_eq_getElem?_getD
set_option maxRecDepth 100000
def ApaP (ns : List Nd) : Prop := ∀ i, i < ns.length → kindN ns (i : Int) = 3 → (inN ns (i : Int)).Pairwise (DisI ns)
theorem word_andS (x y : BitVec 64) : IntKind.u64.wrap (((x.toNat % 2 ^ IntKind.u64.bits &&& y.toNat % 2 ^ IntKind.u64.bits : Nat)) : Int) = ((x &&& y).toNat : Int) := by
 rw [bits64, Nat.mod_eq_of_lt x.isLt, Nat.mod_eq_of_lt y.isLt, ← BitVec.toNat_and]
 exact u64w (by omega) (by have := (x &&& y).isLt; omega)
theorem and_zero {a b : BitVec 128} (h : ∀ v, sHas a v = true → sHas b v = true → False) : lo a &&& lo b = 0#64 ∧ hi a &&& hi b = 0#64 := by
 have e : a &&& b = 0#128 := sets_ext fun v _ _ => by
  rw [sHas_and]
  cases h1 : sHas a v
  ·simp [sHas]
  ·cases h2 : sHas b v
   ·simp [sHas]
   ·exact (h v h1 h2).elim
 constructor
 ·apply BitVec.eq_of_getLsbD_eq
  intro k hk
  have := congrArg (fun s : BitVec 128 => s.getLsbD k) e
  simp only [BitVec.getLsbD_and] at this
  rw [BitVec.getLsbD_and, lo_bit, lo_bit]
  simp [hk, this]
 ·apply BitVec.eq_of_getLsbD_eq
  intro k hk
  have := congrArg (fun s : BitVec 128 => s.getLsbD (64 + k)) e
  simp only [BitVec.getLsbD_and] at this
  rw [BitVec.getLsbD_and, hi_bit, hi_bit]
  simp [hk, this]
theorem and_wrap {a b : BitVec 128} (h : ∀ v, sHas a v = true → sHas b v = true → False) : IntKind.u64.wrap ((((lo a).toNat % 2 ^ IntKind.u64.bits &&& (lo b).toNat % 2 ^ IntKind.u64.bits : Nat)) : Int) = 0 ∧ IntKind.u64.wrap ((((hi a).toNat % 2 ^ IntKind.u64.bits &&& (hi b).toNat % 2 ^ IntKind.u64.bits : Nat)) : Int) = 0 := by
 obtain ⟨h1, h2⟩ := and_zero h
 rw [word_andS, word_andS, h1, h2]
 exact ⟨rfl, rfl⟩
def apaB (ns : List Nd) : Bool := (List.range ns.length).all fun i => !decide (kindN ns (i : Int) = 3) || (List.range (inN ns (i : Int)).length).all fun k => (List.range k).all fun j => decide (varI ns ((inN ns (i : Int)).getD j 0) &&& varI ns ((inN ns (i : Int)).getD k 0) = 0#128)
theorem dis_and {ns : List Nd} {a b : Int} : DisI ns a b ↔ varI ns a &&& varI ns b = 0#128 := by
 constructor
 ·intro h
  refine sets_ext fun v _ _ => ?_
  rw [sHas_and]
  cases h1 : sHas (varI ns a) v
  ·simp [sHas]
  ·cases h2 : sHas (varI ns b) v
   ·simp [sHas]
   ·exact (h v h1 h2).elim
 ·intro h v h1 h2
  have : sHas (varI ns a &&& varI ns b) v = true := by rw [sHas_and, h1, h2]; rfl
  rw [h] at this
  simp [sHas] at this
theorem apaB_of {ns : List Nd} (h : ApaP ns) : apaB ns = true := by
 unfold apaB
 refine List.all_eq_true.2 fun i hi => ?_
 by_cases hk : kindN ns (i : Int) = 3
 ·rw [decide_eq_true hk, Bool.not_true, Bool.false_or]
  have hp := h i (List.mem_range.1 hi) hk
  refine List.all_eq_true.2 fun k hk2 => List.all_eq_true.2 fun j hj => ?_
  have hk2 := List.mem_range.1 hk2
  have hj := List.mem_range.1 hj
  have := List.pairwise_iff_getElem.1 hp j k (by omega) hk2 hj
  rw [decide_eq_true_eq, ← dis_and]
  simpa [List.getD, hk2, show j < (inN ns (i : Int)).length by omega] using this
 ·rw [decide_eq_false hk]; rfl
theorem of_apaB {ns : List Nd} (h : apaB ns = true) : ApaP ns := fun i hi hk => by
 unfold apaB at h
 have := List.all_eq_true.1 h i (List.mem_range.2 hi)
 rw [decide_eq_true hk, Bool.not_true, Bool.false_or] at this
 refine List.pairwise_iff_getElem.2 fun j k hj hk2 hjk => ?_
 have h2 := List.all_eq_true.1 (List.all_eq_true.1 this k (List.mem_range.2 hk2)) j (List.mem_range.2 hjk)
 rw [decide_eq_true_eq, ← dis_and] at h2
 simpa [List.getD, hk2, hj] using h2
theorem and_wrapN {a b : BitVec 128} (h : ∀ v, sHas a v = true → sHas b v = true → False) : (wAnd (lo a) (lo b)).toNat = 0 ∧ (wAnd (hi a) (hi b)).toNat = 0 := by
 obtain ⟨h1, h2⟩ := and_zero h
 unfold wAnd
 rw [h1, h2]
 exact ⟨rfl, rfl⟩
theorem aSets_ids (V : List (BitVec 128)) : (aSets V).ids = [] := by unfold aSets; simp only [AV.ids]; exact d_ids_aSets V
set_option maxHeartbeats 8000000 in
theorem apart_p (N : Int) (ns : List Nd) (hN : okI N = true) (hns : okNs ns = true) (hv : validN N ns = true) (hd : ApaP ns) : FnPure Tryz.prog 17 [aNet N ns] (.v (.bool true)) := by
 have hnl := okNs_len hns
 have HD := Lib.hid hd
 have hva : varsAS N ns = aSets (varsL ns) := by unfold varsAS; rw [if_pos hv]
 have hvl : (varsL ns).length = ns.length := scanN_len nodeS ns
 have hvi : ∀ q : Nat, (varsL ns).getD q 0#128 = varI ns (q : Int) := fun q => rfl
 obtain ⟨V, hV⟩ : ∃ V, varsL ns = V := ⟨_, rfl⟩
 rw [hV] at hva hvl hvi
 have HVI := Lib.hid hvi
 clear hd hV hvi
 unfold aNet aNds
 unfold aSets at hva
 refine fn_sp TT_ok Tryz.func17 (c := _) rfl (by simp [Tryz.ntmps17]) (fun B hI0 hro => ?_)
 rw [Tryz.ntmps17]
 simp only [enumA]
 refine amGo PT231_ok (h := ?_)
 refine s_loop (J := fun k : {k : Nat // k ≤ ns.length} => ⟨81, [(1, .ptr 0 0 0), (2, .v (.bool false)), (3, aSets V), (4, .v (.int .i64 (k.1 : Int)))], [(0, ⟨28, 2, [[.v (.int .i64 N), aNds ns]]⟩)], [0]⟩) (μ := fun k => ns.length - k.1) ⟨0, Nat.zero_le _⟩ ?_ (fun ⟨i, hi⟩ => ?_)
 ·(refine weak_id rfl ?_ ?_ <;> ((try simp only [List.mem_cons, List.not_mem_nil, or_false, forall_eq_or_imp, forall_eq]); (try simp (disch := omega) [i64w, *])))
  all_goals ((repeat' refine And.intro ?_ ?_) <;> first | rfl | (intro k h; rw [aSets_ids] at h; cases h))
 dsimp only
 clear hva
 unfold aNds
 refine amStr (h := ?_)
 refine amReg PT231_ok (h := ?_)
 refine amStr (h := ?_)
 (focus ((with_reducible refine sp_cond (b := ?_) ?_ (fun hc => ?_) (fun hc => ?_)); rotate_left; (focus (first | rfl | (simp [lk, AS.ev]; rfl))); all_goals (try simp at hc)))
 ·have hii : i < ns.length := by omega
  clear hc
  have hji : (i : Int) < (ns.length : Int) := by omega
  have hget := nds_get hii
  have hwi : IntKind.i64.wrap ((i : Int) + 1) = (i : Int) + 1 := i64s i (by omega)
  have hfm := valid_form hv hii
  obtain ⟨o1, o2, o3, o4⟩ := okNs_at hns hii
  have hdi := HD.out i hii
  have hk4 : kindN ns (i : Int) = (ns.getD i nd0).1 := rfl
  have hi4 : inN ns (i : Int) = (ns.getD i nd0).2.2 := rfl
  rw [hk4, hi4] at hdi
  have hin : ∀ j, j < (ns.getD i nd0).2.2.length → ∃ q : Nat, (ns.getD i nd0).2.2.getD j 0 = (q : Int) ∧ q < ns.length := fun j hj => by
   have hmem : (ns.getD i nd0).2.2.getD j 0 ∈ (ns.getD i nd0).2.2 := getD_memI hj
   have := form_in hfm hmem
   exact ⟨((ns.getD i nd0).2.2.getD j 0).toNat, by omega, by omega⟩
  clear hk4 hi4 hfm
  obtain ⟨x, hx⟩ : ∃ x, ns.getD i nd0 = x := ⟨_, rfl⟩
  rw [hx] at hdi hin o1 o2 o3 o4 hget
  clear hx
  obtain ⟨K, y, is⟩ := x
  simp only at hdi hin o1 o2 o3 o4 hget
  have HDI := Lib.hid hdi
  have HIN := Lib.hid hin
  clear hdi hin
  refine amStr (h := ?_)
  refine amReg PT231_ok (h := ?_)
  refine amStr (h := ?_)
  refine s_loop (J := fun k : {k : Nat // k ≤ is.length} => ⟨81, [(1, .ptr 0 0 0), (2, .v (.bool false)), (3, aSets V), (4, .v (.int .i64 (i : Int))), (5, .v (.int .i64 (k.1 : Int)))], [(0, ⟨28, 2, [[.v (.int .i64 N), aNds ns]]⟩)], [0]⟩) (μ := fun k => is.length - k.1) ⟨0, Nat.zero_le _⟩ ?_ (fun ⟨k, hk⟩ => ?_)
  ·(refine weak_id rfl ?_ ?_ <;> ((try simp only [List.mem_cons, List.not_mem_nil, or_false, forall_eq_or_imp, forall_eq]); (try simp (disch := omega) [i64w, *])))
   all_goals ((repeat' refine And.intro ?_ ?_) <;> first | rfl | (intro k h; rw [aSets_ids] at h; cases h))
  dsimp only
  unfold aNds
  by_cases hkk : k < is.length
  ·have hki : (k : Int) < (is.length : Int) := by omega
   have hwk : IntKind.i64.wrap ((k : Int) + 1) = (k : Int) + 1 := i64s k (by omega)
   by_cases h3 : K = 3
   ·subst h3
    have hpw := HDI.out rfl
    obtain ⟨p, hp1, hp2⟩ := HIN.out k hkk
    have hpV : p < V.length := by omega
    have hpi : (p : Int) < (ns.length : Int) := by omega
    have hga := sets_get hpV
    refine amStr (h := ?_)
    refine amReg PT231_ok (h := ?_)
    refine amStr (h := ?_)
    refine amReg PT231_ok (h := ?_)
    refine amStr (h := ?_)
    refine s_loop (J := fun j : {j : Nat // j ≤ k} => ⟨81, [(1, .ptr 0 0 0), (2, .v (.bool false)), (3, aSets V), (4, .v (.int .i64 (i : Int))), (5, .v (.int .i64 (k : Int))), (6, .v (.int .i64 (j.1 : Int)))], [(0, ⟨28, 2, [[.v (.int .i64 N), aNds ns]]⟩)], [0]⟩) (μ := fun j => k - j.1) ⟨0, Nat.zero_le _⟩ ?_ (fun ⟨j, hj⟩ => ?_)
    ·(refine weak_id rfl ?_ ?_ <;> ((try simp only [List.mem_cons, List.not_mem_nil, or_false, forall_eq_or_imp, forall_eq]); (try simp (disch := omega) [i64w, *])))
     all_goals ((repeat' refine And.intro ?_ ?_) <;> first | rfl | (intro k h; rw [aSets_ids] at h; cases h))
    dsimp only
    unfold aNds aSets
    refine amStr (h := ?_)
    refine amReg PT231_ok (h := ?_)
    refine amStr (h := ?_)
    (focus ((with_reducible refine sp_cond (b := ?_) ?_ (fun hc => ?_) (fun hc => ?_)); rotate_left; (focus (first | rfl | (simp [lk, AS.ev]; rfl))); all_goals (try simp at hc)))
    ·have hjj : j < k := by omega
     clear hc
     have hjl : j < is.length := by omega
     have hjli : (j : Int) < (is.length : Int) := by omega
     have hwj : IntKind.i64.wrap ((j : Int) + 1) = (j : Int) + 1 := i64s j (by omega)
     obtain ⟨q, hq1, hq2⟩ := HIN.out j hjl
     have hqV : q < V.length := by omega
     have hqi : (q : Int) < (ns.length : Int) := by omega
     have hgb := sets_get hqV
     have hdis : DisI ns (q : Int) (p : Int) := by
      have := List.pairwise_iff_getElem.1 hpw j k hjl hkk hjj
      have e1 : is[j] = (q : Int) := by rw [← hq1]; simp [List.getD, hjl]
      have e2 : is[k] = (p : Int) := by rw [← hp1]; simp [List.getD, hkk]
      rwa [e1, e2] at this
     obtain ⟨w1, w2⟩ := and_wrapN (a := V.getD p 0#128) (b := V.getD q 0#128) fun v h1 h2 => by
      rw [HVI.out] at h1 h2
      exact hdis v h2 h1
     obtain ⟨A, hA⟩ : ∃ A, V.getD p 0#128 = A := ⟨_, rfl⟩
     obtain ⟨C, hC⟩ : ∃ C, V.getD q 0#128 = C := ⟨_, rfl⟩
     rw [hA] at hga w1 w2
     rw [hC] at hgb w1 w2
     clear hA hC hdis hpw
     refine amStr (h := ?_)
     refine amDrw PT231_ok (h := ?_)
     refine amStr (h := ?_)
     refine amReg PT231_ok (h := ?_)
     refine amStr (h := ?_)
     refine amReg PT231_ok (h := ?_)
     refine k_lp (⟨j + 1, hjj⟩ : {j : Nat // j ≤ k}) (by dsimp only; omega) ?_
     (refine weak_id rfl ?_ ?_ <;> ((try simp only [List.mem_cons, List.not_mem_nil, or_false, forall_eq_or_imp, forall_eq]); (try simp (disch := omega) [i64w, *])))
     all_goals ((repeat' refine And.intro ?_ ?_) <;> first | rfl | (intro k h; rw [aSets_ids] at h; cases h))
    ·refine amStr (h := ?_)
     refine amReg PT231_ok (h := ?_)
     refine k_lp (⟨k + 1, hkk⟩ : {k : Nat // k ≤ is.length}) (by dsimp only; omega) ?_
     (refine weak_id rfl ?_ ?_ <;> ((try simp only [List.mem_cons, List.not_mem_nil, or_false, forall_eq_or_imp, forall_eq]); (try simp (disch := omega) [i64w, *])))
     all_goals ((repeat' refine And.intro ?_ ?_) <;> first | rfl | (intro k h; rw [aSets_ids] at h; cases h))
   ·have h3b : (K == 3) = false := by simpa using h3
    refine amStr (h := ?_)
    refine amReg PT231_ok (h := ?_)
    refine amStr (h := ?_)
    refine amReg PT231_ok (h := ?_)
    refine k_lp (⟨i + 1, hii⟩ : {k : Nat // k ≤ ns.length}) (by dsimp only; omega) ?_
    (refine weak_id rfl ?_ ?_ <;> ((try simp only [List.mem_cons, List.not_mem_nil, or_false, forall_eq_or_imp, forall_eq]); (try simp (disch := omega) [i64w, *])))
    all_goals ((repeat' refine And.intro ?_ ?_) <;> first | rfl | (intro k h; rw [aSets_ids] at h; cases h))
  ·have hki : ¬ ((k : Int) < (is.length : Int)) := by omega
   refine amStr (h := ?_)
   refine amReg PT231_ok (h := ?_)
   refine amStr (h := ?_)
   refine amReg PT231_ok (h := ?_)
   refine k_lp (⟨i + 1, hii⟩ : {k : Nat // k ≤ ns.length}) (by dsimp only; omega) ?_
   (refine weak_id rfl ?_ ?_ <;> ((try simp only [List.mem_cons, List.not_mem_nil, or_false, forall_eq_or_imp, forall_eq]); (try simp (disch := omega) [i64w, *])))
   all_goals ((repeat' refine And.intro ?_ ?_) <;> first | rfl | (intro k h; rw [aSets_ids] at h; cases h))
 ·refine amStr (h := ?_)
  refine amReg PT231_ok (h := ?_)
  refine amStr (h := ?_)
  (refine amRt Tryz.results17 (h := ?_); try simp [*])
@[simp] def g_l23Apa : List AV → Option (AV × Bool)
 | [.agg [.v (.int .i64 N), a0]] => (match toNds a0 with | some ns => if (okI N && okNs ns && (validN N ns && apaB ns)) = true then some (.v (.bool true), false) else none | none => none)
 | _ => none
theorem e_l23Apa : EntOk Tryz.prog 17 g_l23Apa := ent_pure (by kernel_rfl) fun args r fr h => by
 unfold g_l23Apa at h
 split at h
 ·rename_i N a0
  split at h
  ·rename_i ns t0
   split at h
   ·rename_i hc
    simp only [Bool.and_eq_true] at hc
    obtain ⟨⟨m0, o0⟩, hk⟩ := hc
    cases h
    exact ⟨FnPure.cov (apart_p N ns m0 o0 hk.1 (of_apaB hk.2)) (.cons (cov_th _ (cov_nds t0)) .nil), rfl⟩
   ·cases h
  ·cases h
 ·cases h

def l232 : List (FuncId × (List AV → Option (AV × Bool))) :=
 (18, g_l23Dec) :: (17, g_l23Apa) :: l231
theorem l232_ok : ∀ p ∈ l232, EntOk Tryz.prog p.1 p.2 := ent_cons e_l23Dec (ent_cons e_l23Apa (l231_ok))
def PT232 : PTab := tab l232
theorem PT232_ok : PTok Tryz.prog PT232 := tab_ok l232_ok
@[simp] theorem PT232_l23Dec : PT232 18 = g_l23Dec := rfl
@[simp] theorem PT232_l23Apa : PT232 17 = g_l23Apa := rfl
@[simp] theorem PT232_old (f : FuncId) (h : decide (f ≠ 18 ∧ f ≠ 17) = true) : PT232 f = PT231 f := (fun h => Eq.trans (tab_old h.1) (tab_old h.2)) (of_decide_eq_true h)
end Go.Proofs.YtllkogdgmmcfgaaGreatDoor
