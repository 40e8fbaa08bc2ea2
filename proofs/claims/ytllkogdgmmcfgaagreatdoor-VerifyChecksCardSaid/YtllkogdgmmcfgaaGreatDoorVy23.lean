/- censusref23.input, Needed; no condition. -/
import Derived.Test.YtllkogdgmmcfgaaGreatDoorWxG
import Derived.Test.YtllkogdgmmcfgaaGreatDoorWl
namespace Go.Proofs.YtllkogdgmmcfgaaGreatDoor
set_option linter.unusedVariables false
set_option linter.unusedSimpArgs false
set_option linter.unusedSectionVars false
open Go.RowKit
open Wlk
attribute [-simp] List.getD_eq_getElem?_getD
set_option maxRecDepth 100000
def inpI (ns : List Nd) (K i : Int) : Bool := ns.any fun x => decide (x.1 = K) && decide (i ∈ x.2.2)
set_option maxHeartbeats 4000000 in
theorem input_p (M : Int) (ns : List Nd) (i K : Int) (hns : okNs ns = true) (hi : okI i = true) (hK : okI K = true) : FnPure Tryz.prog 31 [aNet M ns, .v (.int .i64 i), .v (.int .i64 K)] (.v (.bool (inpI ns K i))) := by
 have hnl := okNs_len hns
 unfold aNet aNds
 refine fn_sp TT_ok Tryz.func31 (c := _) rfl (by simp [Tryz.ntmps31]) (fun B hI0 hro => ?_)
 rw [Tryz.ntmps31]
 simp only [enumA]
 refine amGo PT207_ok (h := ?_)
 refine s_loop (J := fun k : {k : Nat // k ≤ ns.length ∧ Hid (((ns.take k).any fun x => decide (x.1 = K) && decide (i ∈ x.2.2)) = false)} => ⟨48, [(1, .v (.int .i64 i)), (2, .v (.int .i64 K)), (3, .ptr 0 0 0), (6, .v (.bool false)), (7, .v (.int .i64 (k.1 : Int)))], [(0, ⟨28, 2, [[.v (.int .i64 M), aNds ns]]⟩)], [0]⟩) (μ := fun k => ns.length - k.1) ⟨0, Nat.zero_le _, Lib.hid rfl⟩ ?_ (fun ⟨k, hk, HB⟩ => ?_)
 ·(refine weak_id rfl ?_ ?_ <;> ((try simp only [List.mem_cons, List.not_mem_nil, or_false, forall_eq_or_imp, forall_eq]); (try simp (disch := omega) [i64w, *])))
  all_goals rfl
 try dsimp only at hk HB
 try dsimp only
 unfold aNds
 refine amStr (h := ?_)
 refine amReg PT207_ok (h := ?_)
 refine amStr (h := ?_)
 (focus ((with_reducible refine sp_cond (b := ?_) ?_ (fun hc => ?_) (fun hc => ?_)); rotate_left; (focus (first | rfl | (simp [lk, AS.ev]; rfl))); all_goals (try simp at hc)))
 ·have hkk : k < ns.length := by omega
  clear hc
  obtain ⟨o1, o2, o3, o4⟩ := okNs_at hns hkk
  have hget := nds_get hkk
  have HY := Lib.hid (any_take_yes (f := fun x : Nd => decide (x.1 = K) && decide (i ∈ x.2.2)) (d := nd0) hkk)
  have HN := Lib.hid (any_take_step (f := fun x : Nd => decide (x.1 = K) && decide (i ∈ x.2.2)) (d := nd0) hkk HB.out)
  obtain ⟨A, hA⟩ : ∃ A, (ns.getD k nd0).1 = A := ⟨_, rfl⟩
  obtain ⟨B, hB⟩ : ∃ B, (ns.getD k nd0).2.1 = B := ⟨_, rfl⟩
  obtain ⟨is, his⟩ : ∃ is, (ns.getD k nd0).2.2 = is := ⟨_, rfl⟩
  rw [hA] at hget o1
  rw [hB] at hget
  rw [his] at hget o3 o4
  have HE := Lib.hid (show (decide ((ns.getD k nd0).1 = K) && decide (i ∈ (ns.getD k nd0).2.2)) = (decide (A = K) && decide (i ∈ is)) by rw [hA, his])
  clear hA hB his
  have hwk : IntKind.i64.wrap ((k : Int) + 1) = (k : Int) + 1 := i64s k (by omega)
  have hki : (k : Int) < (ns.length : Int) := by omega
  refine amStr (h := ?_)
  refine amReg PT207_ok (h := ?_)
  refine amStr (h := ?_)
  refine s_loop (J := fun j : {j : Nat // j ≤ is.length ∧ Hid (((is.take j).any fun x => decide (x = i) && decide (A = K)) = false)} => ⟨48, [(1, .v (.int .i64 i)), (2, .v (.int .i64 K)), (3, .ptr 0 0 0), (6, .v (.bool false)), (7, .v (.int .i64 (k : Int))), (8, .v (.int .i64 (j.1 : Int)))], [(0, ⟨28, 2, [[.v (.int .i64 M), aNds ns]]⟩)], [0]⟩) (μ := fun j => is.length - j.1) ⟨0, Nat.zero_le _, Lib.hid rfl⟩ ?_ (fun ⟨j, hj, HJ⟩ => ?_)
  ·(refine weak_id rfl ?_ ?_ <;> ((try simp only [List.mem_cons, List.not_mem_nil, or_false, forall_eq_or_imp, forall_eq]); (try simp (disch := omega) [i64w, *])))
   all_goals rfl
  try dsimp only at hj HJ
  try dsimp only
  unfold aNds
  refine amStr (h := ?_)
  refine amReg PT207_ok (h := ?_)
  refine amStr (h := ?_)
  (focus ((with_reducible refine sp_cond (b := ?_) ?_ (fun hc => ?_) (fun hc => ?_)); rotate_left; (focus (first | rfl | (simp [lk, AS.ev]; rfl))); all_goals (try simp at hc)))
  ·have hjj : j < is.length := by omega
   clear hc
   have hji : (j : Int) < (is.length : Int) := by omega
   have hwj : IntKind.i64.wrap ((j : Int) + 1) = (j : Int) + 1 := i64s j (by omega)
   have HM := Lib.hid (getD_memI hjj)
   have HS := Lib.hid (any_take_step (f := fun x : Int => decide (x = i) && decide (A = K)) (d := 0) hjj HJ.out)
   obtain ⟨y, hy⟩ : ∃ y, is.getD j 0 = y := ⟨_, rfl⟩
   have HY2 := Lib.hid hy
   rw [hy] at HM HS
   by_cases h1 : y = i
   ·subst h1
    by_cases h2 : A = K
    ·have hF : inpI ns K y = true := HY.out (by rw [HE.out, decide_eq_true h2, decide_eq_true HM.out]; rfl)
     have h2b : (A == K) = true := by simpa using h2
     rw [hF]
     refine amStr (h := ?_)
     refine amReg PT207_ok (h := ?_)
     refine amStr (h := ?_)
     refine amReg PT207_ok (h := ?_)
     refine amStr (h := ?_)
     (refine amRt Tryz.results31 (h := ?_); try simp [*])
    ·have h2b : (A == K) = false := by simpa using h2
     refine amStr (h := ?_)
     refine amReg PT207_ok (h := ?_)
     refine amStr (h := ?_)
     refine amReg PT207_ok (h := ?_)
     refine k_lp (⟨j + 1, hjj, Lib.hid (HS.out (by rw [decide_eq_false h2, Bool.and_false]))⟩ : {j : Nat // j ≤ is.length ∧ Hid (((is.take j).any fun x => decide (x = y) && decide (A = K)) = false)}) (by dsimp only; omega) ?_
     (refine weak_id rfl ?_ ?_ <;> ((try simp only [List.mem_cons, List.not_mem_nil, or_false, forall_eq_or_imp, forall_eq]); (try simp (disch := omega) [i64w, *])))
     all_goals rfl
   ·have h1b : (y == i) = false := by simpa using h1
    refine amStr (h := ?_)
    refine amReg PT207_ok (h := ?_)
    refine amStr (h := ?_)
    refine amReg PT207_ok (h := ?_)
    refine k_lp (⟨j + 1, hjj, Lib.hid (HS.out (by rw [decide_eq_false h1, Bool.false_and]))⟩ : {j : Nat // j ≤ is.length ∧ Hid (((is.take j).any fun x => decide (x = i) && decide (A = K)) = false)}) (by dsimp only; omega) ?_
    (refine weak_id rfl ?_ ?_ <;> ((try simp only [List.mem_cons, List.not_mem_nil, or_false, forall_eq_or_imp, forall_eq]); (try simp (disch := omega) [i64w, *])))
    all_goals rfl
  ·obtain rfl : j = is.length := by omega
   clear hc
   have hJ := HJ.out
   rw [List.take_length] at hJ
   have hno : (decide (A = K) && decide (i ∈ is)) = false := by
    cases h : (decide (A = K) && decide (i ∈ is))
    ·rfl
    ·rw [Bool.and_eq_true, decide_eq_true_eq, decide_eq_true_eq] at h
     rw [List.any_eq_false] at hJ
     exact absurd (by rw [decide_eq_true h.1]; simp) (hJ i h.2)
   clear hJ
   have HT := Lib.hid (HN.out (by rw [HE.out, hno]))
   clear hno
   refine amStr (h := ?_)
   refine amReg PT207_ok (h := ?_)
   refine k_lp (⟨k + 1, hkk, HT⟩ : {k : Nat // k ≤ ns.length ∧ Hid (((ns.take k).any fun x => decide (x.1 = K) && decide (i ∈ x.2.2)) = false)}) (by dsimp only; omega) ?_
   (refine weak_id rfl ?_ ?_ <;> ((try simp only [List.mem_cons, List.not_mem_nil, or_false, forall_eq_or_imp, forall_eq]); (try simp (disch := omega) [i64w, *])))
   all_goals rfl
 ·obtain rfl : k = ns.length := by omega
  clear hc
  have hF : inpI ns K i = false := by have := HB.out; rw [List.take_length] at this; exact this
  rw [hF]
  refine amStr (h := ?_)
  refine amReg PT207_ok (h := ?_)
  refine amStr (h := ?_)
  (refine amRt Tryz.results31 (h := ?_); try simp [*])
@[simp] def g_r23Inp : List AV → Option (AV × Bool)
 | [.agg [.v (.int .i64 M), a0], .v (.int .i64 j), .v (.int .i64 K)] => (match toNds a0 with | some ns => if (okI M && okNs ns && okI j && okI K) = true then some (.v (.bool (inpI ns K j)), false) else none | none => none)
 | _ => none
theorem e_r23Inp : EntOk Tryz.prog 31 g_r23Inp := ent_pure (by kernel_rfl) fun args r fr h => by
 unfold g_r23Inp at h
 split at h
 ·rename_i M a0 j K
  split at h
  ·rename_i ns t0
   split at h
   ·rename_i hc
    simp only [Bool.and_eq_true] at hc
    obtain ⟨⟨⟨m0, o0⟩, o1⟩, o2⟩ := hc
    cases h
    exact ⟨FnPure.cov (input_p M ns j K o0 o1 o2) (.cons (cov_th _ (cov_nds t0)) (.cons (Cov.refl _) (.cons (Cov.refl _) .nil))), rfl⟩
   ·cases h
  ·cases h
 ·cases h

def l220 : List (FuncId × (List AV → Option (AV × Bool))) :=
 (31, g_r23Inp) :: l207
theorem l220_ok : ∀ p ∈ l220, EntOk Tryz.prog p.1 p.2 := ent_cons e_r23Inp (l207_ok)
def PT220 : PTab := tab l220
theorem PT220_ok : PTok Tryz.prog PT220 := tab_ok l220_ok
@[simp] theorem PT220_r23Inp : PT220 31 = g_r23Inp := rfl
@[simp] theorem PT220_old (f : FuncId) (h : decide (f ≠ 31) = true) : PT220 f = PT207 f := tab_old (of_decide_eq_true h)
end Go.Proofs.YtllkogdgmmcfgaaGreatDoor
