/- copied and SameClaims on any claims; no condition. -/
import Derived.Test.YthdjgcjpolpgdaaRe22
import Derived.Test.YthdjgcjpolpgdaaWa
namespace Go.Proofs.Ythdjgcjpolpgdaa
set_option linter.unusedVariables false
set_option linter.unusedSimpArgs false
set_option linter.unusedSectionVars false
open Go.RowKit
attribute [local simp] List.getD_cons_zero List.getD_cons_succ List.getD_nil undef gvars runL runE effA stepA dstOk wantA core lk st dl AS.ev AS.evs AS.put AS.upd updO updI nxt cPick cAlloc cBox cBuild cBuildS cLoad cStore cNil plainOf cBin cNilS isNilS nilA cUn cConvX cConvB cConv bytesOf rowB cMake cSlice slA idxA cFA cF cIA cIX cIS cI cExt cLen cApp cMM cFun cCall lenA lenM isNilM nilM cNilM cMakeM hintB cMapK cLook foundR lookR cUpd putM cDel delM findA isKeyB Instr.sameNow AS.entry AS.bound AS.callee sc1 sc2 ixOk ldA AV.flat AV.cell AV.cells Value.oneCell' fillA spl chunk zeros AS.parts AS.rows AS.shut AS.shut1 AS.shut2 AS.shutL AS.shutM AV.ids idsL idsLL eqAll bndA AV.scalar AV.scalar1 AV.isV Ef.app Ef.pk ptOf pntO wrO wr
attribute [-simp] List.getD_eq_getElem?_getD
set_option maxRecDepth 100000
def cpC (l : List Cl) (k : Nat) : List (List AV) := (l.take k).map fun p => [aInts p.1, aInts p.2]
theorem cpC_succ {l : List Cl} {k : Nat} (hk : k < l.length) : cpC l (k + 1) = cpC l k ++ [[aInts (l.getD k ([], [])).1, aInts (l.getD k ([], [])).2]] := by
  have : l.getD k ([], []) = l[k] := by simp [List.getD, hk]
  unfold cpC
  rw [this, List.take_succ_eq_append_getElem hk, List.map_append]; rfl
theorem cpC_len {l : List Cl} {k : Nat} (hk : k ≤ l.length) : (cpC l k).length = k := by simp [cpC]; omega
theorem cpC_ids (l : List Cl) (k : Nat) : idsLL (cpC l k) = [] := d_ids_aCls _
theorem cpC_all (l : List Cl) : cpC l l.length = l.map fun p => [aInts p.1, aInts p.2] := by unfold cpC; rw [List.take_length]
@[simp ↓ high] theorem d_frz_cpC (σ : AS) (D : Nat → Bool) (l : List Cl) (k : Nat) : (cpC l k).map (fun r => r.map (frzC σ D)) = cpC l k := by
  unfold cpC
  rw [List.map_map]
  refine List.map_congr_left fun p _ => ?_
  show [frzC σ D (aInts p.1), frzC σ D (aInts p.2)] = [aInts p.1, aInts p.2]
  rw [d_frzC_ints, d_frzC_ints]
@[simp ↓ high] theorem d_ren_cpC (ρ : Nat → Nat) (l : List Cl) (k : Nat) : renLL ρ (cpC l k) = cpC l k := renLL_pure ρ _ (cpC_ids l k)
attribute [local simp] renLL_append
theorem cpC_zero (l : List Cl) : cpC l 0 = [] := rfl
theorem okCl_len {l : List Cl} (h : okCl l = true) : l.length ≤ 100000 := by
  unfold okCl at h
  rw [Bool.and_eq_true, decide_eq_true_eq] at h
  exact h.1
theorem copied_p (l : List Cl) (hl : okCl l = true) : FnPure Try.prog 17 [aCls l] (aCls l) := by
  have hm := okCl_len hl
  unfold aCls
  refine fn_sp TT_ok Try.func17 (c := _) rfl (by simp [Try.ntmps17]) (fun B hI0 hro => ?_)
  rw [Try.ntmps17]
  simp only [enumA]
  refine amGo PT112_ok (h := ?_)
  refine s_nil 3 40 27 2 (by simp [lk]) (by simp) ?_
  simp only [st]
  refine s_loop (J := fun i : {k : Nat // k ≤ l.length} => ⟨26, [(3, .ref 40 0 i.1), (6, .sl 2 (l.map fun p => [aInts p.1, aInts p.2])), (7, .v (.int .i64 (l.length : Int))), (8, .v (.int .i64 (i.1 : Int)))], [(40, ⟨27, 2, cpC l i.1⟩)], [40]⟩) (μ := fun i => l.length - i.1) ⟨0, Nat.zero_le _⟩ ?_ (fun ⟨k, hk⟩ => ?_)
  · have hz := cpC_zero l
    have hci := cpC_ids l 0
    (refine weak_id rfl ?_ ?_ <;> ((try simp only [List.mem_cons, List.not_mem_nil, or_false, forall_eq_or_imp, forall_eq]); (try simp (disch := omega) [i64w, *])))
  refine amGo PT112_ok (h := ?_)
  (focus ((with_reducible refine sp_cond (b := ?_) ?_ (fun hc => ?_) (fun hc => ?_)); rotate_left; (focus (first | rfl | (simp [lk, AS.ev]; rfl))); all_goals (try simp at hc)))
  · have hkk := hc
    clear hc
    have hcap : (k + 1) * 48 ≤ 140737488355328 := by omega
    obtain ⟨o1, o2⟩ := okCl_at hl (cl_mem hkk)
    have hs := cpC_succ hkk
    have hcl := cpC_len hk
    have hci := cpC_ids l k
    obtain ⟨ts, cs, hp⟩ : ∃ ts cs, l.getD k ([], []) = (ts, cs) := ⟨_, _, rfl⟩
    rw [hp] at o1 o2 hs
    dsimp only at o1 o2 hs
    have lt := okInts_len o1
    have lc := okInts_len o2
    have c1 : ts.length * 8 ≤ 140737488355328 := by omega
    have c2 : cs.length * 8 ≤ 140737488355328 := by omega
    refine amStr (h := ?_)
    refine amReg PT112_ok (h := ?_)
    refine amStr (h := ?_)
    refine amDrw PT112_ok (h := ?_)
    refine amStr (h := ?_)
    refine s_frz (fun q => q == 48 || q == 52) ?_
    (refine s_eq (τ := ?_) ?_ ?_; rotate_left; (focus ((try simp only [AS.frz, List.map_cons, List.map_nil]); (try simp [frzV, frzO, frzC, List.filter]); rfl)))
    refine amStr (h := ?_)
    refine amReg PT112_ok (h := ?_)
    refine k_lp (⟨k + 1, by omega⟩ : {k : Nat // k ≤ l.length}) (by dsimp only; omega) ?_
    (refine weak_of (fun q => if q = 40 then 55 else q) ⟨rfl, ?_, ?_, ?_⟩ <;> ((try simp only [List.mem_cons, List.not_mem_nil, or_false, forall_eq_or_imp, forall_eq]); (try simp (disch := omega) [lk, AV.ids, idsL, idsLL, AV.ren, renL, renLL, i64w, *])))
  · obtain rfl : k = l.length := by omega
    have hcl := cpC_len hk
    have hci := cpC_ids l l.length
    have hca := cpC_all l
    refine amGo PT112_ok (h := ?_)
    ((refine post_ret (av := ?_) (by first | exact .inl rfl | exact .inr rfl) (show (Try.f17).results.toList = _ from by rw [Try.results17]) ?_ ?_); rotate_left; (focus (simp [retA, retL, ret1, lk, st, ldA, AV.cell]; rfl)); (try simp [*]))
theorem sameCls_p (l m : List Cl) (hl : okCl l = true) (hm : okCl m = true) : FnPure Try.prog 24 [aCls l, aCls m] (.v (.bool (decide (l = m)))) := by
  have hl1 := okCl_len hl
  have hm1 := okCl_len hm
  unfold aCls
  by_cases hlm : l.length = m.length
  · refine fn_sp TT_ok Try.func24 (c := _) rfl (by simp [Try.ntmps24]) (fun B hI0 hro => ?_)
    rw [Try.ntmps24]
    simp only [enumA]
    refine amGo PT112_ok (h := ?_)
    refine s_loop (J := fun i : {k : Nat // k ≤ l.length ∧ ∀ j, j < k → l.getD j ([], []) = m.getD j ([], [])} => ⟨43, [(0, .sl 2 (l.map fun p => [aInts p.1, aInts p.2])), (1, .sl 2 (m.map fun p => [aInts p.1, aInts p.2])), (5, .v (.int .i64 (i.1 : Int)))], [], []⟩) (μ := fun i => l.length - i.1) ⟨0, Nat.zero_le _, fun j hj => by omega⟩ ?_ (fun ⟨k, hk, he⟩ => ?_)
    · (refine weak_id rfl ?_ ?_ <;> ((try simp only [List.mem_cons, List.not_mem_nil, or_false, forall_eq_or_imp, forall_eq]); (try simp (disch := omega) [i64w, *])))
    refine amGo PT112_ok (h := ?_)
    (focus ((with_reducible refine sp_cond (b := ?_) ?_ (fun hc => ?_) (fun hc => ?_)); rotate_left; (focus (first | rfl | (simp [lk, AS.ev]; rfl))); all_goals (try simp at hc)))
    · have hkk : k < l.length := by omega
      clear hc
      have hkm : k < m.length := by omega
      obtain ⟨o1, o2⟩ := okCl_at hl (cl_mem hkk)
      obtain ⟨o3, o4⟩ := okCl_at hm (cl_mem hkm)
      have hne : l.getD k ([], []) ≠ m.getD k ([], []) → l ≠ m := fun h e => h (by rw [e])
      have wk : IntKind.i64.wrap ((k : Int) + 1) = (k : Int) + 1 := i64s k (by omega)
      obtain ⟨ts, cs, hp⟩ : ∃ ts cs, l.getD k ([], []) = (ts, cs) := ⟨_, _, rfl⟩
      obtain ⟨us, ds, hq⟩ : ∃ us ds, m.getD k ([], []) = (us, ds) := ⟨_, _, rfl⟩
      rw [hp] at o1 o2
      rw [hq] at o3 o4
      dsimp only at o1 o2 o3 o4
      by_cases e1 : ts = us
      · by_cases e2 : cs = ds
        · have e3 : l.getD k ([], []) = m.getD k ([], []) := by rw [hp, hq, e1, e2]
          subst e1
          subst e2
          clear hne
          refine amGo PT112_ok (h := ?_)
          refine k_lp (⟨k + 1, by omega, fun j hj => ?_⟩ : {k : Nat // k ≤ l.length ∧ ∀ j, j < k → l.getD j ([], []) = m.getD j ([], [])}) (by first | (dsimp only; omega) | omega) ?_
          · by_cases e : j < k
            · exact he j e
            · obtain rfl : j = k := by omega
              exact e3
          · (refine weak_id rfl ?_ ?_ <;> ((try simp only [List.mem_cons, List.not_mem_nil, or_false, forall_eq_or_imp, forall_eq]); (try simp (disch := omega) [i64w, *])))
        · have hn := hne (by rw [hp, hq]; exact fun e => e2 (congrArg Prod.snd e))
          clear hne
          refine amGo PT112_ok (h := ?_)
          ((refine post_ret (av := ?_) (by first | exact .inl rfl | exact .inr rfl) (show (Try.f24).results.toList = _ from by rw [Try.results24]) ?_ ?_); rotate_left; (focus (simp [retA, retL, ret1, lk, st, ldA, AV.cell]; rfl)); (try simp [*]))
      · have hn := hne (by rw [hp, hq]; exact fun e => e1 (congrArg Prod.fst e))
        clear hne
        refine amGo PT112_ok (h := ?_)
        ((refine post_ret (av := ?_) (by first | exact .inl rfl | exact .inr rfl) (show (Try.f24).results.toList = _ from by rw [Try.results24]) ?_ ?_); rotate_left; (focus (simp [retA, retL, ret1, lk, st, ldA, AV.cell]; rfl)); (try simp [*]))
    · obtain rfl : k = l.length := by omega
      have hlme : l = m := by
        apply List.ext_getElem hlm
        intro j h1 h2
        have := he j h1
        simpa [List.getD, h1, h2] using this
      refine amGo PT112_ok (h := ?_)
      ((refine post_ret (av := ?_) (by first | exact .inl rfl | exact .inr rfl) (show (Try.f24).results.toList = _ from by rw [Try.results24]) ?_ ?_); rotate_left; (focus (simp [retA, retL, ret1, lk, st, ldA, AV.cell]; rfl)); (try simp [*]))
  · have hl2 : ((l.length : Int) != (m.length : Int)) = true := by simp; omega
    have hne : l ≠ m := fun e => hlm (by rw [e])
    refine fn_sp TT_ok Try.func24 (c := _) rfl (by simp [Try.ntmps24]) (fun B hI0 hro => ?_)
    rw [Try.ntmps24]
    simp only [enumA]
    refine amGo PT112_ok (h := ?_)
    ((refine post_ret (av := ?_) (by first | exact .inl rfl | exact .inr rfl) (show (Try.f24).results.toList = _ from by rw [Try.results24]) ?_ ?_); rotate_left; (focus (simp [retA, retL, ret1, lk, st, ldA, AV.cell]; rfl)); (try simp [*]))
@[simp] def g_copiedL : List AV → Option (AV × Bool)
  | [a0] => (match toCls a0 with | some l => if (okCl l) = true then some (aCls l, false) else none | none => none)
  | _ => none
theorem e_copiedL : EntOk Try.prog 17 g_copiedL := ent_pure (by kernel_rfl) fun args r fr h => by
  unfold g_copiedL at h
  split at h
  · rename_i a0
    split at h
    · rename_i l t0
      split at h
      · rename_i hc
        have o0 := hc
        cases h
        exact ⟨FnPure.cov (copied_p l o0) (.cons (cov_cls t0) .nil), rfl⟩
      · cases h
    · cases h
  · cases h

@[simp] def g_sameCls : List AV → Option (AV × Bool)
  | [a0, a1] => (match toCls a0 with | some l => (match toCls a1 with | some m => if (okCl l && okCl m) = true then some (.v (.bool (decide (l = m))), false) else none | none => none) | none => none)
  | _ => none
theorem e_sameCls : EntOk Try.prog 24 g_sameCls := ent_pure (by kernel_rfl) fun args r fr h => by
  unfold g_sameCls at h
  split at h
  · rename_i a0 a1
    split at h
    · rename_i l t0
      split at h
      · rename_i m t1
        split at h
        · rename_i hc
          simp only [Bool.and_eq_true] at hc
          obtain ⟨o0, o1⟩ := hc
          cases h
          exact ⟨FnPure.cov (sameCls_p l m o0 o1) (.cons (cov_cls t0) (.cons (cov_cls t1) .nil)), rfl⟩
        · cases h
      · cases h
    · cases h
  · cases h

end Go.Proofs.Ythdjgcjpolpgdaa
