/- (censusref23.Proof).side; no condition. -/
import Derived.Test.YtllkogdgmmcfgaaGreatDoorRk23
import Derived.Test.YtllkogdgmmcfgaaGreatDoorWl
namespace Go.Proofs.YtllkogdgmmcfgaaGreatDoor
set_option linter.unusedVariables false
set_option linter.unusedSimpArgs false
set_option linter.unusedSectionVars false
open Go.RowKit
open Wlk
attribute [-simp] List.getD_eq_getElem?_getD
set_option maxRecDepth 100000
theorem findI_none {is : List Int} {f : Int → Bool} (h : ∀ j, j < is.length → f (is.getD j 0) = false) : is.findIdx? f = none := by
 rw [List.findIdx?_eq_none_iff]
 intro x hx
 obtain ⟨j, hj, rfl⟩ := List.mem_iff_getElem.1 hx
 have := h j hj
 simpa [List.getD, hj] using this
theorem findI_some {is : List Int} {f : Int → Bool} {k : Nat} (hk : k < is.length) (h : ∀ j, j < k → f (is.getD j 0) = false) (hf : f (is.getD k 0) = true) : is.findIdx? f = some k := by
 rw [List.findIdx?_eq_some_iff_getElem]
 refine ⟨hk, by simpa [List.getD, hk] using hf, fun j hj => ?_⟩
 have := h j hj
 have hj2 : j < is.length := by omega
 simpa [List.getD, hj2] using this
set_option maxHeartbeats 16000000 in
theorem rside_p (N : Int) (L : List (List Int)) (ns : List Nd) (cl : List Cl) (R : List (List Int)) (i l : Int) (hp : Prf N L ns cl) (hR : okRows R = true) (hz : checkT N R = 0) (hi0 : 0 ≤ i) (hi1 : i < (ns.length : Int)) (hl : okI l = true) (hlo : litOk l N = true) : FnPure Tryz.prog 67 [aPrg N L ns cl, aTh N R, .v (.int .i64 i), .v (.int .i64 l)] (.v (.bool (sideV N L ns cl R i l))) := by
 obtain ⟨m, rfl⟩ := Int.eq_ofNat_of_zero_le hi0
 have hm : m < ns.length := by omega
 have hgm := nds_get hm
 obtain ⟨o1, o2, o3, o4⟩ := okNs_at hp.hns hm
 have hsv : sideV N L ns cl R (m : Int) l = (if (ns.getD m nd0).1 = 2 then decide ((ns.getD m nd0).2.1 = l) && decide (gvV R l = []) else if (ns.getD m nd0).1 = 3 then match (ns.getD m nd0).2.2.findIdx? (litI ns l) with
  | none => false
  | some k => fitV N L ns cl (gvV R l) (cutI (ns.getD m nd0).2.2 k) else false) := rfl
 have hix := prf_in hp hm
 have hNo := hp.hN
 have hpB := prfB_of hp
 have hns := hp.hns
 have hgz := gv_check hz l
 have hgo := okRows_check hgz
 obtain ⟨G, hG⟩ : ∃ G, gvV R l = G := ⟨_, rfl⟩
 rw [hG] at hsv hgz hgo
 have hfe : aTh N G = .agg [.v (.int .i64 N), aRows G] := rfl
 obtain ⟨K, hK⟩ : ∃ K, (ns.getD m nd0).1 = K := ⟨_, rfl⟩
 obtain ⟨j, hj⟩ : ∃ j, (ns.getD m nd0).2.1 = j := ⟨_, rfl⟩
 obtain ⟨is, his⟩ : ∃ is, (ns.getD m nd0).2.2 = is := ⟨_, rfl⟩
 rw [hK, hj, his] at hsv hgm
 rw [hK] at o1
 rw [hj] at o2
 rw [his] at o3 o4 hix
 have HSV := Lib.hid hsv
 clear hsv hi0
 have hnl2 : (is.length : Int) ≤ 9223372036854775807 := by omega
 unfold aTh aPrg aNds aCls
 refine fn_sp TT_ok Tryz.func67 (c := _) rfl (by simp [Tryz.ntmps67]) (fun B hI0 hro => ?_)
 rw [Tryz.ntmps67]
 simp only [enumA]
 refine amStr (h := ?_)
 refine amReg PT243_ok (h := ?_)
 refine amStr (h := ?_)
 refine amReg PT243_ok (h := ?_)
 refine amStr (h := ?_)
 refine amReg PT243_ok (h := ?_)
 refine amStr (h := ?_)
 by_cases hk2 : K = 2
 ·subst hk2
  have hF := HSV.out
  rw [if_pos rfl] at hF
  rw [hF]
  by_cases hjl : j = l
  ·rw [decide_eq_true hjl, Bool.true_and]
   have hjb : (j == l) = true := by simpa using hjl
   have hgn : ((G.length : Int) == 0) = decide (G = []) := by cases G <;> simp <;> omega
   refine amStr (h := ?_)
   refine amReg PT243_ok (h := ?_)
   refine amStr (h := ?_)
   (refine amRt Tryz.results67 (h := ?_); try simp [*])
  ·rw [decide_eq_false hjl, Bool.false_and]
   have hjb : (j == l) = false := by simpa using hjl
   refine amStr (h := ?_)
   refine amReg PT243_ok (h := ?_)
   refine amStr (h := ?_)
   (refine amRt Tryz.results67 (h := ?_); try simp [*])
 ·have hkb : (K == 2) = false := by simpa using hk2
  have hF := HSV.out
  rw [if_neg hk2] at hF
  by_cases hk3 : K = 3
  ·subst hk3
   rw [if_pos rfl] at hF
   have HFI := Lib.hid hF
   clear hF HSV
   refine amStr (h := ?_)
   refine amReg PT243_ok (h := ?_)
   refine amStr (h := ?_)
   refine s_loop (J := fun k : {k : Nat // k ≤ is.length ∧ Hid (∀ j, j < k → litI ns l (is.getD j 0) = false)} => ⟨84, [(2, .v (.int .i64 (m : Int))), (3, .v (.int .i64 l)), (4, .ptr 0 0 0), (5, .ptr 1 0 0), (8, .v (.bool false)), (9, .ptr 50 0 0), (10, .v (.int .i64 (k.1 : Int)))], [(50, ⟨32, 3, [[.v (.int .i64 3), .v (.int .i64 j), aInts is]]⟩), (0, ⟨68, 5, [[.v (.int .i64 N), aRows L, .v (.int .i64 N), aNds ns, aCls cl]]⟩), (1, ⟨24, 2, [[.v (.int .i64 N), aRows R]]⟩)], [50, 1, 0]⟩) (μ := fun k => is.length - k.1) ⟨0, Nat.zero_le _, Lib.hid fun j hj => by omega⟩ ?_ (fun ⟨k, hk, HK⟩ => ?_)
   ·(refine weak_of (fun q => if q = 50 then 8 else q) ⟨rfl, ?_, ?_, ?_⟩ <;> ((try simp only [List.mem_cons, List.not_mem_nil, or_false, forall_eq_or_imp, forall_eq]); (try simp (disch := omega) [lk, AV.ids, idsL, idsLL, AV.ren, renL, renLL, i64w, *])))
    all_goals first | rfl | exact ⟨rfl, rfl⟩ | trace_state
   try dsimp only at hk HK
   try dsimp only
   unfold aNds aCls
   by_cases hc : k < is.length
   ·have hkk := hc
    have hki : (k : Int) < (is.length : Int) := by omega
    have hcd : decide (k < is.length) = true := decide_eq_true hkk
    have hwk : IntKind.i64.wrap ((k : Int) + 1) = (k : Int) + 1 := i64s k (by omega)
    clear hc
    obtain ⟨hq0, hq1⟩ := idxB_at hix hkk
    obtain ⟨q, hq⟩ : ∃ q : Nat, is.getD k 0 = (q : Int) := ⟨(is.getD k 0).toNat, by omega⟩
    rw [hq] at hq0 hq1
    have hqn : q < ns.length := by omega
    have hgq := nds_get hqn
    have HS : Hid (litI ns l (is.getD k 0) = false → ∀ j, j < k + 1 → litI ns l (is.getD j 0) = false) := Lib.hid fun h j hj => by
     by_cases e : j = k
     ·rw [e]; exact h
     ·exact HK.out j (by omega)
    have HFS := Lib.hid (fun h => findI_some (f := litI ns l) hkk HK.out h)
    have hli : litI ns l (q : Int) = (decide ((ns.getD q nd0).1 = 2) && decide ((ns.getD q nd0).2.1 = l)) := rfl
    rw [hq] at HS HFS
    obtain ⟨K2, hK2⟩ : ∃ K, (ns.getD q nd0).1 = K := ⟨_, rfl⟩
    obtain ⟨l2, hl2⟩ : ∃ l, (ns.getD q nd0).2.1 = l := ⟨_, rfl⟩
    obtain ⟨ix2, hix2⟩ : ∃ ix, (ns.getD q nd0).2.2 = ix := ⟨_, rfl⟩
    rw [hK2, hl2, hix2] at hgq
    rw [hK2, hl2] at hli
    have HLI := Lib.hid hli
    clear hli hK2 hl2 hix2
    by_cases h2 : K2 = 2
    ·subst h2
     by_cases h3 : l2 = l
     ·have hlb : (l2 == l) = true := by simpa using h3
      have hfi := HFS.out (by rw [HLI.out, decide_eq_true h3]; rfl)
      have hF := HFI.out
      rw [hfi] at hF
      simp only at hF
      rw [hF]
      have hk1 : k + 1 ≤ is.length := hkk
      have hk2i : (k : Int) + 1 ≤ (is.length : Int) := by omega
      have hkn : k ≤ is.length := by omega
      have hkn2 : (k : Int) ≤ (is.length : Int) := by omega
      have hci := idx_cutI hix k
      have hoc := okInts_cut hkk o3
      have hsum : (is.take k).length + (is.drop (k + 1)).length ≤ 400 := by rw [List.length_take, List.length_drop]; omega
      have hA1 := okInts_take o3 k
      have hC1 : okInts (is.drop (k + 1)) = true := okInts_dropN o3 (k + 1)
      have hdC : List.take (is.length - (k + 1)) (List.drop (k + 1) is) = List.drop (k + 1) is := List.take_of_length_le (by rw [List.length_drop]; omega)
      have hge : ((k : Int) ≥ 0) := by omega
      have hcu : cutI is k = is.take k ++ is.drop (k + 1) := rfl
      rw [hcu] at hci ⊢
      obtain ⟨A, hAe⟩ : ∃ A, is.take k = A := ⟨_, rfl⟩
      obtain ⟨C, hCe⟩ : ∃ C, is.drop (k + 1) = C := ⟨_, rfl⟩
      rw [hAe] at hA1
      rw [hCe] at hC1 hdC
      rw [hAe, hCe] at hci hoc hsum ⊢
      have hA8 : A.length * 8 ≤ 140737488355328 := by omega
      have hAC8 : (A.length + C.length) * 8 ≤ 140737488355328 := by omega
      clear hfi hcu hF HFI HFS HS HLI h3
      refine amStr (h := ?_)
      refine amReg PT243_ok (h := ?_)
      refine amStr (h := ?_)
      refine amDrw PT243_ok (h := ?_)
      refine amStr (h := ?_)
      refine amReg PT243_ok (h := ?_)
      refine amStr (h := ?_)
      refine amReg PT243_ok (h := ?_)
      refine amStr (h := ?_)
      refine s_nil 12 60 3 1 (by simp [lk]) (by simp) ?_
      (refine s_eq (τ := ?_) ?_ ?_; rotate_left; (focus ((try simp only [AS.frz, List.map_cons, List.map_nil]); (try simp [frzV, frzO, frzC, List.filter]); rfl)))
      refine amReg PT243_ok (h := ?_)
      refine amStr (h := ?_)
      refine amReg PT243_ok (h := ?_)
      refine amStr (h := ?_)
      have hm1 : (A.map fun i => [AV.v (.int .i64 i)]) ++ (C.map fun i => [AV.v (.int .i64 i)]) = (A ++ C).map fun i => [AV.v (.int .i64 i)] := by rw [List.map_append]
      have hm2 : A.length + C.length = (A ++ C).length := by rw [List.length_append]
      rw [hm1, hm2]
      rw [hm2] at hsum
      generalize A ++ C = D at hci hoc hsum ⊢
      refine s_weak (τ := ⟨84, [(3, .v (.int .i64 l)), (4, .ptr 0 0 0), (5, .ptr 1 0 0), (8, .v (.bool false)), (12, .ref 74 0 D.length)], [(74, ⟨3, 1, D.map fun i => [.v (.int .i64 i)]⟩), (0, ⟨68, 5, [[.v (.int .i64 N), aRows L, .v (.int .i64 N), aNds ns, aCls cl]]⟩), (1, ⟨24, 2, [[.v (.int .i64 N), aRows R]]⟩)], [74, 1, 0]⟩) ?_ ?_
      ·(refine weak_id rfl ?_ ?_ <;> ((try simp only [List.mem_cons, List.not_mem_nil, or_false, forall_eq_or_imp, forall_eq]); (try simp (disch := omega) [i64w, *])))
       all_goals first | rfl | exact ⟨rfl, rfl⟩ | trace_state
      refine s_frz (fun q => q == 74) ?_
      unfold aNds aCls
      (refine s_eq (τ := ?_) ?_ ?_; rotate_left; (focus ((try simp only [AS.frz, List.map_cons, List.map_nil]); (try simp [frzV, frzO, frzC, List.filter]); rfl)))
      refine amDrs PT243_ok (h := ?_)
      refine amStr (h := ?_)
      (refine amRt Tryz.results67 (h := ?_); try simp [*])
     ·have hlb : (l2 == l) = false := by simpa using h3
      have HT := Lib.hid (HS.out (by rw [HLI.out, decide_eq_false h3, Bool.and_false]))
      clear HS HFS HLI
      refine amStr (h := ?_)
      refine amReg PT243_ok (h := ?_)
      refine amStr (h := ?_)
      refine amDrw PT243_ok (h := ?_)
      refine amStr (h := ?_)
      refine amReg PT243_ok (h := ?_)
      refine amStr (h := ?_)
      refine amReg PT243_ok (h := ?_)
      refine k_lp (⟨k + 1, hkk, HT⟩ : {k : Nat // k ≤ is.length ∧ Hid (∀ j, j < k → litI ns l (is.getD j 0) = false)}) (by dsimp only; omega) ?_
      (refine weak_id rfl ?_ ?_ <;> ((try simp only [List.mem_cons, List.not_mem_nil, or_false, forall_eq_or_imp, forall_eq]); (try simp (disch := omega) [i64w, *])))
      all_goals first | rfl | exact ⟨rfl, rfl⟩ | trace_state
    ·have h2b : (K2 == 2) = false := by simpa using h2
     have HT := Lib.hid (HS.out (by rw [HLI.out, decide_eq_false h2, Bool.false_and]))
     clear HS HFS HLI
     refine amStr (h := ?_)
     refine amReg PT243_ok (h := ?_)
     refine amStr (h := ?_)
     refine amDrw PT243_ok (h := ?_)
     refine amStr (h := ?_)
     refine amReg PT243_ok (h := ?_)
     refine amStr (h := ?_)
     refine amReg PT243_ok (h := ?_)
     refine k_lp (⟨k + 1, hkk, HT⟩ : {k : Nat // k ≤ is.length ∧ Hid (∀ j, j < k → litI ns l (is.getD j 0) = false)}) (by dsimp only; omega) ?_
     (refine weak_id rfl ?_ ?_ <;> ((try simp only [List.mem_cons, List.not_mem_nil, or_false, forall_eq_or_imp, forall_eq]); (try simp (disch := omega) [i64w, *])))
     all_goals first | rfl | exact ⟨rfl, rfl⟩ | trace_state
   ·obtain rfl : k = is.length := by omega
    have hcd : decide (is.length < is.length) = false := decide_eq_false (by omega)
    clear hc
    have hF := HFI.out
    rw [findI_none HK.out] at hF
    rw [hF]
    refine amStr (h := ?_)
    refine amReg PT243_ok (h := ?_)
    refine amStr (h := ?_)
    refine amReg PT243_ok (h := ?_)
    refine amStr (h := ?_)
    (refine amRt Tryz.results67 (h := ?_); try simp [*])
  ·rw [if_neg hk3] at hF
   have hkc : (K == 3) = false := by simpa using hk3
   rw [hF]
   refine amStr (h := ?_)
   refine amReg PT243_ok (h := ?_)
   refine amStr (h := ?_)
   refine s_loop (J := fun _ : Unit => ⟨84, [(2, .v (.int .i64 (m : Int))), (3, .v (.int .i64 l)), (4, .ptr 0 0 0), (5, .ptr 1 0 0), (8, .v (.bool false)), (9, .ptr 50 0 0), (10, .v (.int .i64 0))], [(50, ⟨32, 3, [[.v (.int .i64 K), .v (.int .i64 j), aInts is]]⟩), (0, ⟨68, 5, [[.v (.int .i64 N), aRows L, .v (.int .i64 N), aNds ns, aCls cl]]⟩), (1, ⟨24, 2, [[.v (.int .i64 N), aRows R]]⟩)], [50, 1, 0]⟩) (μ := fun _ => 0) () ?_ (fun _ => ?_)
   ·(refine weak_of (fun q => if q = 50 then 8 else q) ⟨rfl, ?_, ?_, ?_⟩ <;> ((try simp only [List.mem_cons, List.not_mem_nil, or_false, forall_eq_or_imp, forall_eq]); (try simp (disch := omega) [lk, AV.ids, idsL, idsLL, AV.ren, renL, renLL, i64w, *])))
    all_goals first | rfl | exact ⟨rfl, rfl⟩ | trace_state
   unfold aNds aCls
   cases hb : decide (0 < is.length)
   ·refine amStr (h := ?_)
    refine amReg PT243_ok (h := ?_)
    refine amStr (h := ?_)
    refine amReg PT243_ok (h := ?_)
    refine amStr (h := ?_)
    (refine amRt Tryz.results67 (h := ?_); try simp [*])
   ·refine amStr (h := ?_)
    refine amReg PT243_ok (h := ?_)
    refine amStr (h := ?_)
    refine amReg PT243_ok (h := ?_)
    refine amStr (h := ?_)
    (refine amRt Tryz.results67 (h := ?_); try simp [*])
@[simp] def g_r23Sid : List AV → Option (AV × Bool)
 | [.agg [.v (.int .i64 N), a0, .v (.int .i64 N'), b0, c0], .agg [.v (.int .i64 M), a1], .v (.int .i64 j), .v (.int .i64 l)] => (match toRows a0 with | some L => (match toNds b0 with | some ns => (match toCls c0 with | some cl => (match toRows a1 with | some R => if (decide (N' = N) && prfB N L ns cl && okI M && okRows R && okI j && okI l && (decide (M = N) && decide (checkT N R = 0) && decide (0 ≤ j) && decide (j < (ns.length : Int)) && litOk l N)) = true then some (.v (.bool (sideV N L ns cl R j l)), false) else none | none => none) | none => none) | none => none) | none => none)
 | _ => none
theorem e_r23Sid : EntOk Tryz.prog 67 g_r23Sid := ent_pure (by kernel_rfl) fun args r fr h => by
 unfold g_r23Sid at h
 split at h
 ·rename_i N a0 N' b0 c0 M a1 j l
  split at h
  ·rename_i L t0
   split at h
   ·rename_i ns s0
    split at h
    ·rename_i cl w0
     split at h
     ·rename_i R t1
      split at h
      ·rename_i hc
       simp only [Bool.and_eq_true] at hc
       obtain ⟨⟨⟨⟨⟨⟨e0, o0⟩, m1⟩, o1⟩, o2⟩, o3⟩, hk⟩ := hc
       cases h
       exact ⟨FnPure.cov (by have e1 : M = N := of_decide_eq_true hk.1.1.1.1; have e2 := of_decide_eq_true e0; subst e1; subst e2; exact rside_p _ L ns cl R j l (prf_of o0) o1 (of_decide_eq_true hk.1.1.1.2) (of_decide_eq_true hk.1.1.2) (of_decide_eq_true hk.1.2) o3 hk.2) (.cons (cov_prg e0 t0 s0 w0) (.cons (cov_th _ (cov_rows t1)) (.cons (Cov.refl _) (.cons (Cov.refl _) .nil)))), rfl⟩
      ·cases h
     ·cases h
    ·cases h
   ·cases h
  ·cases h
 ·cases h

def l244 : List (FuncId × (List AV → Option (AV × Bool))) :=
 (67, g_r23Sid) :: l243
theorem l244_ok : ∀ p ∈ l244, EntOk Tryz.prog p.1 p.2 := ent_cons e_r23Sid (l243_ok)
def PT244 : PTab := tab l244
theorem PT244_ok : PTok Tryz.prog PT244 := tab_ok l244_ok
@[simp] theorem PT244_r23Sid : PT244 67 = g_r23Sid := rfl
@[simp] theorem PT244_old (f : FuncId) (h : decide (f ≠ 67) = true) : PT244 f = PT243 f := tab_old (of_decide_eq_true h)
end Go.Proofs.YtllkogdgmmcfgaaGreatDoor
