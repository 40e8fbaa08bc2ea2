/- The law's light: what is looked at; no condition. -/
import Derived.Test.YtecdhmiamlgibaaDoorHl39
import Derived.Test.YtecdhmiamlgibaaDoorWa
namespace Go.Proofs.YtecdhmiamlgibaaDoor
set_option linter.unusedVariables false
set_option linter.unusedSimpArgs false
set_option linter.unusedSectionVars false
open Go.RowKit
attribute [local simp] List.getD_cons_zero List.getD_cons_succ List.getD_nil undef gvars runL runE effA stepA dstOk wantA core lk st dl AS.ev AS.evs AS.put AS.upd updO updI nxt cPick cAlloc cBox cBuild cBuildS cLoad cStore cNil plainOf cBin cNilS isNilS nilA cUn cConvX cConvB cConv bytesOf rowB cMake cSlice slA idxA cFA cF cIA cIX cIS cI cExt cLen cApp cMM cFun cCall lenA lenM isNilM nilM cNilM cMakeM hintB cMapK cLook foundR lookR cUpd putM cDel delM findA isKeyB Instr.sameNow AS.entry AS.bound AS.callee sc1 sc2 ixOk ldA AV.flat AV.cell AV.cells Value.oneCell' fillA spl chunk zeros AS.parts AS.rows AS.shut AS.shut1 AS.shut2 AS.shutL AS.shutM AV.ids idsL idsLL eqAll bndA AV.scalar AV.scalar1 AV.isV Ef.app Ef.pk ptOf pntO wrO wr
attribute [-simp] List.getD_eq_getElem?_getD
set_option maxRecDepth 100000
def okNd0 (x : Nd) : Bool := okI x.1 && okI x.2.1 && okIL x.2.2
def okN0 (ns : List Nd) : Bool := decide (ns.length ≤ 9223372036854775807) && ns.all okNd0
def lightN (ns : List Nd) : Bool := (List.range ns.length).all (fun i => decide ((ns.getD i nd0).2.2.length ≤ 20)) && decide (ns.length ≤ 80)
theorem okN0_len {ns : List Nd} (h : okN0 ns = true) : ns.length ≤ 9223372036854775807 := by
  unfold okN0 at h
  rw [Bool.and_eq_true, decide_eq_true_eq] at h
  exact h.1
theorem okN0_at {ns : List Nd} (h : okN0 ns = true) {i : Nat} (hi : i < ns.length) : okI (ns.getD i nd0).1 = true ∧ okI (ns.getD i nd0).2.1 = true ∧ okIL (ns.getD i nd0).2.2 = true := by
  unfold okN0 at h
  rw [Bool.and_eq_true] at h
  have := List.all_eq_true.1 h.2 (ns.getD i nd0) (by simp [List.getD, hi])
  unfold okNd0 at this
  simp only [Bool.and_eq_true] at this
  exact ⟨this.1.1, this.1.2, this.2⟩
theorem light39_p (N : Int) (ns : List Nd) (h : okN0 ns = true) : FnPure Tryd.prog 39 [aNet N ns] (.v (.bool (lightN ns))) := by
  have hl := okN0_len h
  unfold aNet aNds lightN
  refine fn_sp TT_ok Tryd.func39 (c := _) rfl (by simp [Tryd.ntmps39]) (fun B hI0 hro => ?_)
  rw [Tryd.ntmps39]
  simp only [enumA]
  refine amGo PT137_ok (h := ?_)
  refine s_loop (J := fun i : {k : Nat // k ≤ ns.length ∧ ∀ j, j < k → decide ((ns.getD j nd0).2.2.length ≤ 20) = true} => ⟨21, [(1, .ptr 0 0 0), (6, .sl 3 (ns.map fun x => [AV.v (.int .i64 x.1), .v (.int .i64 x.2.1), aInts x.2.2])), (7, .v (.int .i64 (ns.length : Int))), (8, .v (.int .i64 (i.1 : Int)))], [(0, ⟨24, 2, [[.v (.int .i64 N), .sl 3 (ns.map fun x => [AV.v (.int .i64 x.1), .v (.int .i64 x.2.1), aInts x.2.2])]]⟩)], [0]⟩) (μ := fun i => ns.length - i.1) ⟨0, Nat.zero_le _, fun j hj => by omega⟩ ?_ (fun ⟨k, hk, he⟩ => ?_)
  · (refine weak_id rfl ?_ ?_ <;> ((try simp only [List.mem_cons, List.not_mem_nil, or_false, forall_eq_or_imp, forall_eq]); (try simp (disch := omega) [i64w, *])))
  refine amGo PT137_ok (h := ?_)
  (focus ((with_reducible refine sp_cond (b := ?_) ?_ (fun hc => ?_) (fun hc => ?_)); rotate_left; (focus (first | rfl | (simp [lk, AS.ev]; rfl))); all_goals (try simp at hc)))
  · have hkk := hc
    clear hc
    obtain ⟨_, _, o3⟩ := okN0_at h hkk
    have o4 := okIL_len o3
    by_cases h1 : (ns.getD k nd0).2.2.length ≤ 20
    · have h1' : ¬ (20 : Int) < ((ns.getD k nd0).2.2.length : Int) := by omega
      refine amGo PT137_ok (h := ?_)
      refine k_lp (⟨k + 1, by omega, fun j hj => ?_⟩ : {k : Nat // k ≤ ns.length ∧ ∀ j, j < k → decide ((ns.getD j nd0).2.2.length ≤ 20) = true}) (by dsimp only; omega) ?_
      · by_cases e : j < k
        · exact he j e
        · obtain rfl : j = k := by omega
          exact decide_eq_true h1
      · (refine weak_id rfl ?_ ?_ <;> ((try simp only [List.mem_cons, List.not_mem_nil, or_false, forall_eq_or_imp, forall_eq]); (try simp (disch := omega) [i64w, *])))
    · have h1' : (20 : Int) < ((ns.getD k nd0).2.2.length : Int) := by omega
      have hv := all_rangeF (f := fun i => decide ((ns.getD i nd0).2.2.length ≤ 20)) hkk (decide_eq_false h1)
      rw [hv, Bool.false_and]
      refine amGo PT137_ok (h := ?_)
      ((refine post_ret (av := ?_) (by first | exact .inl rfl | exact .inr rfl) (show (Tryd.f39).results.toList = _ from by rw [Tryd.results39]) ?_ ?_); rotate_left; (focus (simp [retA, retL, ret1, lk, st, ldA, AV.cell]; rfl)); (try simp [*]))
  · obtain rfl : k = ns.length := by omega
    rw [all_rangeN (f := fun i => decide ((ns.getD i nd0).2.2.length ≤ 20)) he, Bool.true_and]
    refine amGo PT137_ok (h := ?_)
    ((refine post_ret (av := ?_) (by first | exact .inl rfl | exact .inr rfl) (show (Tryd.f39).results.toList = _ from by rw [Tryd.results39]) ?_ ?_); rotate_left; (focus (simp [retA, retL, ret1, lk, st, ldA, AV.cell]; rfl)); (try simp [*]))
    all_goals omega
theorem okN0_of {ns : List Nd} (h : okNs ns = true) : okN0 ns = true := by
  unfold okN0
  have hl := okNs_len h
  rw [Bool.and_eq_true, decide_eq_true_eq]
  refine ⟨by omega, List.all_eq_true.2 fun x hx => ?_⟩
  obtain ⟨i, hi, rfl⟩ := List.mem_iff_getElem.1 hx
  have := okNs_at h hi
  simp only [List.getD, List.getElem?_eq_getElem hi, Option.getD_some] at this
  unfold okNd0
  simp only [Bool.and_eq_true]
  refine ⟨⟨this.1, this.2.1⟩, okIL_ints this.2.2.1⟩
theorem okNs_of {ns : List Nd} (h : okN0 ns = true) (hl : lightN ns = true) : okNs ns = true := by
  unfold lightN at hl
  rw [Bool.and_eq_true, decide_eq_true_eq] at hl
  unfold okNs
  rw [Bool.and_eq_true, decide_eq_true_eq]
  refine ⟨by omega, List.all_eq_true.2 fun x hx => ?_⟩
  obtain ⟨i, hi, rfl⟩ := List.mem_iff_getElem.1 hx
  obtain ⟨a1, a2, a3⟩ := okN0_at h hi
  have a4 := List.all_eq_true.1 hl.1 i (List.mem_range.2 hi)
  simp only [List.getD, List.getElem?_eq_getElem hi, Option.getD_some, decide_eq_true_eq] at a1 a2 a3 a4
  unfold okNd
  simp only [Bool.and_eq_true, decide_eq_true_eq]
  refine ⟨⟨⟨a1, a2⟩, ?_⟩, a4⟩
  unfold okInts
  rw [Bool.and_eq_true, decide_eq_true_eq]
  exact ⟨(by unfold okIL at a3; rw [Bool.and_eq_true] at a3; exact a3.1), by omega⟩
theorem listS_len (s : BitVec 128) : (listS s).length ≤ 128 := by rw [← listT_eq]; exact listT_len s 128
theorem r3Len_p (s : BitVec 128) : FnPure Tryd.prog 41 [aSet s] (.v (.int .i64 ((listS s).length : Int))) := by
  have hl := listS_len s
  unfold aSet WV
  refine fn_sp TT_ok Tryd.func41 (c := _) rfl (by simp [Tryd.ntmps41]) (fun B hI0 hro => ?_)
  rw [Tryd.ntmps41]
  simp only [enumA]
  refine amGo PT137_ok (h := ?_)
  ((refine post_ret (av := ?_) (by first | exact .inl rfl | exact .inr rfl) (show (Tryd.f41).results.toList = _ from by rw [Tryd.results41]) ?_ ?_); rotate_left; (focus (simp [retA, retL, ret1, lk, st, ldA, AV.cell]; rfl)); (try simp [*]))
@[simp] def g_r3Len : List AV → Option (AV × Bool)
  | [a0] => (match toSet a0 with | some s => if (true) = true then some (.v (.int .i64 ((listS s).length : Int)), false) else none | none => none)
  | _ => none
theorem e_r3Len : EntOk Tryd.prog 41 g_r3Len := ent_pure (by kernel_rfl) fun args r fr h => by
  unfold g_r3Len at h
  split at h
  · rename_i a0
    split at h
    · rename_i s t0
      split at h
      · rename_i hc
        cases h
        exact ⟨FnPure.cov (r3Len_p s) (.cons (toSet_inv t0 ▸ Cov.refl _) .nil), rfl⟩
      · cases h
    · cases h
  · cases h

@[simp] def g_light39 : List AV → Option (AV × Bool)
  | [.agg [.v (.int .i64 N), a0]] => (match toNds a0 with | some ns => if (okI N && okN0 ns) = true then some (.v (.bool (lightN ns)), false) else none | none => none)
  | _ => none
theorem e_light39 : EntOk Tryd.prog 39 g_light39 := ent_pure (by kernel_rfl) fun args r fr h => by
  unfold g_light39 at h
  split at h
  · rename_i N a0
    split at h
    · rename_i ns t0
      split at h
      · rename_i hc
        simp only [Bool.and_eq_true] at hc
        obtain ⟨n0, o0⟩ := hc
        cases h
        exact ⟨FnPure.cov (light39_p N ns o0) (.cons (cov_th _ (cov_nds t0)) .nil), rfl⟩
      · cases h
    · cases h
  · cases h

def l138 : List (FuncId × (List AV → Option (AV × Bool))) :=
  (41, g_r3Len) :: (39, g_light39) :: l137
theorem l138_ok : ∀ p ∈ l138, EntOk Tryd.prog p.1 p.2 := ent_cons e_r3Len (ent_cons e_light39 (l137_ok))
def PT138 : PTab := tab l138
theorem PT138_ok : PTok Tryd.prog PT138 := tab_ok l138_ok
@[simp] theorem PT138_litVar : PT138 85 = g_litVar := rfl
@[simp] theorem PT138_litValid : PT138 110 = g_litValid := rfl
@[simp] theorem PT138_with : PT138 26 = g_with := rfl
@[simp] theorem PT138_without : PT138 25 = g_without := rfl
@[simp] theorem PT138_all : PT138 29 = g_all := rfl
@[simp] theorem PT138_place : PT138 54 = g_place := rfl
@[simp] theorem PT138_vHas : PT138 36 = g_vHas := rfl
@[simp] theorem PT138_vMinus : PT138 31 = g_vMinus := rfl
@[simp] theorem PT138_vCut : PT138 22 = g_vCut := rfl
@[simp] theorem PT138_vUnion : PT138 21 = g_vUnion := rfl
@[simp] theorem PT138_vSub : PT138 72 = g_vSub := rfl
@[simp] theorem PT138_litHolds : PT138 56 = g_litHolds := rfl
@[simp] theorem PT138_nFormed : PT138 84 = g_nFormed := rfl
@[simp] theorem PT138_nCheck : PT138 55 = g_nCheck := rfl
@[simp] theorem PT138_r4Var : PT138 97 = g_r4Var := rfl
@[simp] theorem PT138_r4Valid : PT138 96 = g_r4Valid := rfl
@[simp] theorem PT138_rFormed : PT138 69 = g_rFormed := rfl
@[simp] theorem PT138_rValid20 : PT138 40 = g_rValid20 := rfl
@[simp] theorem PT138_r3Has : PT138 83 = g_r3Has := rfl
@[simp] theorem PT138_r3List : PT138 70 = g_r3List := rfl
@[simp] theorem PT138_r3Len : PT138 41 = g_r3Len := rfl
@[simp] theorem PT138_light39 : PT138 39 = g_light39 := rfl
end Go.Proofs.YtecdhmiamlgibaaDoor
