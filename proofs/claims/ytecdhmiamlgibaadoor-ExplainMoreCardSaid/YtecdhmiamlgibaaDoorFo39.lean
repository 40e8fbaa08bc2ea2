/- node.formed and Check, the reference's Formed and Valid; no condition. -/
import Derived.Test.YtecdhmiamlgibaaDoorNa39
import Derived.Test.YtecdhmiamlgibaaDoorWa
import Derived.Test.YtecdhmiamlgibaaDoorVsG
namespace Go.Proofs.YtecdhmiamlgibaaDoor
set_option linter.unusedVariables false
set_option linter.unusedSimpArgs false
set_option linter.unusedSectionVars false
open Go.RowKit
attribute [local simp] List.getD_cons_zero List.getD_cons_succ List.getD_nil undef gvars runL runE effA stepA dstOk wantA core lk st dl AS.ev AS.evs AS.put AS.upd updO updI nxt cPick cAlloc cBox cBuild cBuildS cLoad cStore cNil plainOf cBin cNilS isNilS nilA cUn cConvX cConvB cConv bytesOf rowB cMake cSlice slA idxA cFA cF cIA cIX cIS cI cExt cLen cApp cMM cFun cCall lenA lenM isNilM nilM cNilM cMakeM hintB cMapK cLook foundR lookR cUpd putM cDel delM findA isKeyB Instr.sameNow AS.entry AS.bound AS.callee sc1 sc2 ixOk ldA AV.flat AV.cell AV.cells Value.oneCell' fillA spl chunk zeros AS.parts AS.rows AS.shut AS.shut1 AS.shut2 AS.shutL AS.shutM AV.ids idsL idsLL eqAll bndA AV.scalar AV.scalar1 AV.isV Ef.app Ef.pk ptOf pntO wrO wr
attribute [-simp] List.getD_eq_getElem?_getD
set_option maxRecDepth 100000
def badIn (i x : Int) : Bool := decide (x < 0) || decide (i ≤ x)
theorem badIn_any (xs : List Int) (i : Int) : xs.any (badIn i) = !xs.all (fun k => decide (0 ≤ k) && decide (k < i)) := by
  induction xs with
  | nil => rfl
  | cons a r ih =>
    rw [List.any_cons, List.all_cons, ih, Bool.not_and]
    congr 1
    unfold badIn
    by_cases h1 : a < 0 <;> by_cases h2 : i ≤ a <;> simp [h1, h2] <;> omega
theorem formed1_looks (k l i : Int) (xs : List Int) (hx : okInts xs = true) (hi : okI i = true) : Looks Tryd.prog [(0, ⟨57, 3, [[.v (.int .i64 k), .v (.int .i64 l), aInts xs]]⟩), (1, ⟨3, 1, [[.v (.int .i64 i)]]⟩)] [1, 0] 109 [.ptr 1 0 0] (avI xs) (onI (badIn i)) := by
  refine ⟨by kernel_rfl, _, _, Tryd.func109, rfl, by simp [Tryd.ntmps109], fun x hxm B hI hro => ?_⟩
  obtain ⟨y, hy, rfl⟩ := List.mem_map.1 hxm
  have ho := okInts_mem hx y hy
  rw [Tryd.ntmps109, Tryd.results109]
  simp only [enumA]
  by_cases h1 : y < 0
  · have hb : badIn i y = true := by simp [badIn, h1]
    refine amGo PT11_ok (h := ?_)
    refine ⟨.inr rfl, ?_, rfl, rfl⟩
    simp [retA, retL, ret1, lk, st, onI, hb]
  · have hb : badIn i y = decide (i ≤ y) := by simp [badIn, h1]
    refine amGo PT11_ok (h := ?_)
    refine ⟨.inr rfl, ?_, rfl, rfl⟩
    simp [retA, retL, ret1, lk, st, onI, hb]
theorem formed_p (k l n i : Int) (xs : List Int) (hk : okI k = true) (hl : okI l = true) (hx : okInts xs = true) (hn : okI n = true) (hi : okI i = true) : FnPure Tryd.prog 84 [.agg [.v (.int .i64 k), .v (.int .i64 l), aInts xs], .v (.int .i64 n), .v (.int .i64 i)] (.v (.bool (formB (k, l, xs) n i))) := by
  have hm := okInts_len hx
  have hlk := formed1_looks k l i xs hx hi
  have hbad := badIn_any xs i
  unfold formB
  generalize hall : (xs.all fun k => decide (0 ≤ k) && decide (k < i)) = bb at hbad ⊢
  refine fn_sp TT_ok Tryd.func84 (c := _) rfl (by simp [Tryd.ntmps84]) (fun B hI0 hro => ?_)
  rw [Tryd.ntmps84]
  simp only [enumA]
  refine amGo PT11_ok (h := ?_)
  refine s_regionL ?_
  ((iterate 3 (((with_reducible refine spl_step TT_ok PT11_ok (id := 0) (σ' := ?_) ?_ ?_); rotate_left; (focus (simp [*]; rfl))))))
  refine spl_call TT_ok rfl rfl rfl (by kernel_rfl) Tryd.func57 rfl (avs := [aInts xs, .clo 109 [.ptr 1 0 0]]) (cs := []) rfl rfl (by simp [Tryd.ntmps57]) fun B' hI' hro' => ?_
  refine sp_mono (cntFI_sp (fun k ob hk => ?_) (by omega) (fun k hk => ?_) hlk rfl hI') fun e τ hq => ?_
  · simp only [lk] at hk
    split at hk
    · cases hk; rename_i e; subst e; simp [idsLL, idsL, AV.ids]
    · split at hk
      · cases hk; rename_i e; subst e; simp [idsLL, idsL, AV.ids]
      · cases hk
  · have : k = 1 := by simpa [idsL, AV.ids] using hk
    simp [this]
  obtain ⟨h1, h2, h3, h4⟩ := hq
  refine ⟨h1, _, h2, ?_⟩
  rw [h3, h4, hbad]
  clear h1 h2 h3 h4 hlk hbad hall
  refine spl_nil ?_
  cases bb with
  | false =>
    refine amGo PT11_ok (h := ?_)
    ((refine post_ret (av := ?_) (by first | exact .inl rfl | exact .inr rfl) (show (Tryd.f84).results.toList = _ from by rw [Tryd.results84]) ?_ ?_); rotate_left; (focus (simp [retA, retL, ret1, lk, st, ldA, AV.cell]; rfl)); (try simp [*]))
  | true =>
    by_cases k0 : k = 0
    · subst k0
      by_cases z : l = 0
      · refine amGo PT11_ok (h := ?_)
        ((refine post_ret (av := ?_) (by first | exact .inl rfl | exact .inr rfl) (show (Tryd.f84).results.toList = _ from by rw [Tryd.results84]) ?_ ?_); rotate_left; (focus (simp [retA, retL, ret1, lk, st, ldA, AV.cell]; rfl)); (try simp [*]))
        all_goals (rw [Bool.eq_iff_iff]; simp; try omega)
      · have hz : (l == 0) = false := by simp [z]
        refine amGo PT11_ok (h := ?_)
        ((refine post_ret (av := ?_) (by first | exact .inl rfl | exact .inr rfl) (show (Tryd.f84).results.toList = _ from by rw [Tryd.results84]) ?_ ?_); rotate_left; (focus (simp [retA, retL, ret1, lk, st, ldA, AV.cell]; rfl)); (try simp [*]))
    by_cases k1 : k = 1
    · subst k1
      by_cases z : l = 0
      · refine amGo PT11_ok (h := ?_)
        ((refine post_ret (av := ?_) (by first | exact .inl rfl | exact .inr rfl) (show (Tryd.f84).results.toList = _ from by rw [Tryd.results84]) ?_ ?_); rotate_left; (focus (simp [retA, retL, ret1, lk, st, ldA, AV.cell]; rfl)); (try simp [*]))
        all_goals (rw [Bool.eq_iff_iff]; simp; try omega)
      · have hz : (l == 0) = false := by simp [z]
        refine amGo PT11_ok (h := ?_)
        ((refine post_ret (av := ?_) (by first | exact .inl rfl | exact .inr rfl) (show (Tryd.f84).results.toList = _ from by rw [Tryd.results84]) ?_ ?_); rotate_left; (focus (simp [retA, retL, ret1, lk, st, ldA, AV.cell]; rfl)); (try simp [*]))
    by_cases k2 : k = 2
    · subst k2
      cases z : litOk l n
      · refine amGo PT11_ok (h := ?_)
        ((refine post_ret (av := ?_) (by first | exact .inl rfl | exact .inr rfl) (show (Tryd.f84).results.toList = _ from by rw [Tryd.results84]) ?_ ?_); rotate_left; (focus (simp [retA, retL, ret1, lk, st, ldA, AV.cell]; rfl)); (try simp [*]))
      · refine amGo PT11_ok (h := ?_)
        ((refine post_ret (av := ?_) (by first | exact .inl rfl | exact .inr rfl) (show (Tryd.f84).results.toList = _ from by rw [Tryd.results84]) ?_ ?_); rotate_left; (focus (simp [retA, retL, ret1, lk, st, ldA, AV.cell]; rfl)); (try simp [*]))
        all_goals (rw [Bool.eq_iff_iff]; simp; try omega)
    by_cases k3 : k = 3
    · subst k3
      refine amGo PT11_ok (h := ?_)
      ((refine post_ret (av := ?_) (by first | exact .inl rfl | exact .inr rfl) (show (Tryd.f84).results.toList = _ from by rw [Tryd.results84]) ?_ ?_); rotate_left; (focus (simp [retA, retL, ret1, lk, st, ldA, AV.cell]; rfl)); (try simp [*]))
      all_goals (rw [Bool.eq_iff_iff]; simp)
    by_cases k4 : k = 4
    · subst k4
      refine amGo PT11_ok (h := ?_)
      ((refine post_ret (av := ?_) (by first | exact .inl rfl | exact .inr rfl) (show (Tryd.f84).results.toList = _ from by rw [Tryd.results84]) ?_ ?_); rotate_left; (focus (simp [retA, retL, ret1, lk, st, ldA, AV.cell]; rfl)); (try simp [*]))
      all_goals (rw [Bool.eq_iff_iff]; simp)
    refine amGo PT11_ok (h := ?_)
    ((refine post_ret (av := ?_) (by first | exact .inl rfl | exact .inr rfl) (show (Tryd.f84).results.toList = _ from by rw [Tryd.results84]) ?_ ?_); rotate_left; (focus (simp [retA, retL, ret1, lk, st, ldA, AV.cell]; rfl)); (try simp [*]))
@[simp] def g_nFormed : List AV → Option (AV × Bool)
  | [.agg [.v (.int .i64 k), .v (.int .i64 l), a0], .v (.int .i64 n), .v (.int .i64 i)] => (match toInts a0 with | some xs => if (okI k && okI l && okInts xs && okI n && okI i) = true then some (.v (.bool (formB (k, l, xs) n i)), false) else none | none => none)
  | _ => none
theorem e_nFormed : EntOk Tryd.prog 84 g_nFormed := ent_pure (by kernel_rfl) fun args r fr h => by
  unfold g_nFormed at h
  split at h
  · rename_i k l a0 n i
    split at h
    · rename_i xs t0
      split at h
      · rename_i hc
        simp only [Bool.and_eq_true] at hc
        obtain ⟨⟨⟨⟨m0, l0⟩, o0⟩, o1⟩, o2⟩ := hc
        cases h
        exact ⟨FnPure.cov (formed_p k l n i xs m0 l0 o0 o1 o2) (.cons (cov_nd _ _ t0) (.cons (Cov.refl _) (.cons (Cov.refl _) .nil))), rfl⟩
      · cases h
    · cases h
  · cases h

def l130 : List (FuncId × (List AV → Option (AV × Bool))) :=
  (84, g_nFormed) :: l11
theorem l130_ok : ∀ p ∈ l130, EntOk Tryd.prog p.1 p.2 := ent_cons e_nFormed (l11_ok)
def PT130 : PTab := tab l130
theorem PT130_ok : PTok Tryd.prog PT130 := tab_ok l130_ok
@[simp] theorem PT130_litVar : PT130 85 = g_litVar := rfl
@[simp] theorem PT130_litValid : PT130 110 = g_litValid := rfl
@[simp] theorem PT130_with : PT130 26 = g_with := rfl
@[simp] theorem PT130_without : PT130 25 = g_without := rfl
@[simp] theorem PT130_all : PT130 29 = g_all := rfl
@[simp] theorem PT130_place : PT130 54 = g_place := rfl
@[simp] theorem PT130_vHas : PT130 36 = g_vHas := rfl
@[simp] theorem PT130_vMinus : PT130 31 = g_vMinus := rfl
@[simp] theorem PT130_vCut : PT130 22 = g_vCut := rfl
@[simp] theorem PT130_vUnion : PT130 21 = g_vUnion := rfl
@[simp] theorem PT130_vSub : PT130 72 = g_vSub := rfl
@[simp] theorem PT130_litHolds : PT130 56 = g_litHolds := rfl
@[simp] theorem PT130_nFormed : PT130 84 = g_nFormed := rfl
end Go.Proofs.YtecdhmiamlgibaaDoor
